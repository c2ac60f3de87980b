/-
  For AstSame: texts of the road to it, 4 of 16.
-/
import Derived.Test.YtappiofmkoelnaaGreatDoorKAstSame2
import Derived.Lib.ConvBytes
import Derived.Laws.AppendOwn
section
namespace Go.Proofs.YtappiofmkoelnaaGreatDoorW.Ah
set_option linter.unusedVariables false
set_option linter.unusedSimpArgs false
section
variable {P : Program} {T : Tab} {E : Env} {H : Nat → Option Blk} {k : Nat} {t : Nat → AV} {a : Act} {r : AV}
theorem run_elems (hH : RepH P E H) {z m : Nat} {x : AV} {u : Value} {cs : List AV} (hx : RepV E x u) (h : elemsOf H z x = some (m, cs)) :
  (Builtin.lenOf u).run P E.w = .ok m E.w ∧ cs.length = m * z ∧ ∀ j, j ≤ m → ∃ vs, (Builtin.firstCells z j u).run P E.w = .ok vs E.w ∧ vs.size = j * z ∧ RepL E (cs.take (j * z)) vs.toList := by
 unfold elemsOf at h
 split at h
 case h_6 => cases h
 case h_1 i o n c =>
  split at h
  case h_2 => cases h
  case h_1 cells ty hi =>
   split at h
   case isFalse => cases h
   case isTrue hle =>
    cases h
    obtain ⟨l, hl, cells', fz, info, q1, q2, q3, q4, q5, q6⟩ := hH.own i _ hi
    simp only [RepV] at hx
    obtain ⟨_, b, cap, rfl, _, _, hm⟩ := hx
    obtain ⟨rfl, _⟩ := hm l hl
    refine ⟨rfl, by simp; omega, fun j hj => ?_⟩
    have hll := q2.length
    simp only [Array.length_toList] at hll
    have hjz : j * z ≤ m * z := Nat.mul_le_mul_right _ hj
    refine ⟨cells'.extract o (o + j * z), ?_, by simp; omega, ?_⟩
    ·simp only [Builtin.firstCells]; exact run_loadCells q1 (by omega)
    ·rw [Array.toList_extract, List.extract_eq_take_drop, show o + j * z - o = j * z by omega, List.take_take, Nat.min_eq_left hjz]
     exact (q2.drop o).take _
 case h_2 cells n full =>
  split at h
  case isFalse => cases h
  case isTrue hle =>
   cases h
   simp only [RepV] at hx
   rcases hx with ⟨b, o, cells', ty, fz, cap, rfl, _, _, _, hb, hl⟩ | ⟨rfl, rfl, ad, cap, rfl, _⟩
   case inr =>
    refine ⟨rfl, by simp, fun j hj => ?_⟩
    obtain rfl : j = 0 := by omega
    refine ⟨#[], ?_, by simp, by simp [RepL]⟩
    cases ad with
    | none => rfl
    | some ad => simp [Builtin.firstCells, loadCells, loadCellsFrom]
   refine ⟨rfl, by simp; omega, fun j hj => ?_⟩
   have hll := hl.length
   simp only [List.length_drop, Array.length_toList] at hll
   have hjz : j * z ≤ m * z := Nat.mul_le_mul_right _ hj
   by_cases h0 : j * z = 0
   ·exact ⟨#[], by simp [Builtin.firstCells, h0, loadCells, loadCellsFrom], by simp [h0], by simp [h0, RepL]⟩
   ·refine ⟨cells'.extract o (o + j * z), ?_, by simp; omega, ?_⟩
    ·simp only [Builtin.firstCells]; exact run_loadCells hb (by omega)
    ·rw [Array.toList_extract, List.extract_eq_take_drop, show o + j * z - o = j * z by omega, List.take_take, Nat.min_eq_left hjz]
     exact hl.take _
 case h_3 full =>
  cases h
  simp only [RepV] at hx
  obtain ⟨ad, cap, rfl, _⟩ := hx
  refine ⟨rfl, by simp, fun j hj => ?_⟩
  obtain rfl : j = 0 := by omega
  exact ⟨#[], by simp [Builtin.firstCells, loadCells, loadCellsFrom], by simp, by simp [RepL]⟩
 case h_4 =>
  cases h
  rw [RepV.sc_inv hx]
  refine ⟨rfl, by simp, fun j hj => ?_⟩
  obtain rfl : j = 0 := by omega
  exact ⟨#[], rfl, by simp, by simp [RepL]⟩
 case h_5 s =>
  split at h
  case isFalse => cases h
  case isTrue hz1 =>
  cases h
  subst hz1
  rw [RepV.sc_inv hx]
  have hs : s.data.size = s.size := rfl
  refine ⟨rfl, by simp [hs], fun j hj => ?_⟩
  refine ⟨(s.extract 0 j).data.map fun b => .int .u8 b.toNat, rfl, ?_, ?_⟩
  ·simp [ByteArray.data_extract, hs]; omega
  ·rw [Array.toList_map, ByteArray.data_extract, Array.toList_extract, List.extract_eq_take_drop, ← List.map_take]
   simp only [Nat.mul_one, Nat.sub_zero, List.drop_zero]
   have := rep_scs (E := E) ((s.data.toList.take j).map fun b => Value.int .u8 b.toNat)
   rw [List.map_map] at this
   exact this
theorem yc_copy (hT : TOk P T) (hH : RepH P E H) (hX : ∀ b, E.X b → b < E.w.heap.size) (hr : RepT E k t a) {o : Oper} {args : Array Operand} {ats : Array TypeId} (ho : o.op = .call { callee := .builtin .copy, args, argTypes := ats })
  {H' : Nat → Option Blk} {n' : Nat} (h : mop T t H E.N (.call { callee := .builtin .copy, args, argTypes := ats }) = some (r, H', n')) : Ym P E a o r H' n' := by
 simp only [mop] at h
 split at h
 case h_2 => cases h
 case h_1 x y st ats' e1 e2 =>
  obtain ⟨p, q, rfl, ex, ey⟩ := two_args e1
  obtain ⟨rest, rfl⟩ : ∃ rest : List TypeId, ats = (st :: rest).toArray := by
   obtain ⟨l⟩ := ats; simp at e2; exact ⟨ats', by rw [e2]⟩
  have hx := hr.ev p
  have hy := hr.ev q
  rw [ex] at hx; rw [ey] at hy
  split at h
  case h_2 => cases h
  case h_1 i hi =>
   split at h
   case h_2 => cases h
   case h_1 e hk =>
    split at h
    case h_2 => cases h
    case h_1 z hz =>
     unfold sizeT at hz
     cases he : T e with
     | none => rw [he] at hz; cases hz
     | some ie =>
      rw [he] at hz; simp at hz
      split at h
      case h_2 => cases h
      case h_1 kk old m new hox hoy =>
       obtain ⟨a1, a2, _⟩ := run_elems (P := P) hH hx hox
       obtain ⟨b1, b2, b3⟩ := run_elems (P := P) hH hy hoy
       obtain ⟨vs, c1, c2, c3⟩ := b3 (min m kk) (Nat.min_le_left _ _)
       have head : ∀ w' base dl dc, a.eval p = .slice base dl dc → dl = kk → (∀ ad, base = some ad → (storeCells ad vs.toList).run P E.w = .ok () w') → (base = none → w' = E.w) → (execOp a.eval o).run P E.w = .ok (.value (goInt (min m kk : Nat))) w' := by
        intro w' base dl dc e1 e2 hs hn
        subst e2
        have hmin : Nat.min m dl = min m dl := rfl
        unfold execOp; rw [ho]
        simp [resolve, invoke, builtin, Builtin.copy_, run_under ((hT.row hi).slice hk), e1, b1, (hT.row he).size, hz, hmin, c1]
        cases base with
        | none => simp [hn rfl]
        | some ad => simp [hs ad rfl]
       split at h
       case h_1 i' o' n c =>
        split at h
        case h_2 => cases h
        case h_1 cs ety hi' =>
         split at h
         case isFalse => cases h
         case isTrue hall =>
          cases h
          have hox' := hox
          simp only [elemsOf, hi'] at hox'
          split at hox'
          case isFalse => cases hox'
          case isTrue hle =>
           simp only [Option.some.injEq, Prod.mk.injEq] at hox'
           obtain ⟨rfl, _⟩ := hox'
           obtain ⟨l, hl, cells, fz, info, q1, q2, q3, q4, q5, q6⟩ := hH.own i' _ hi'
           simp only [RepV] at hx
           obtain ⟨_, b, cap, ex', _, _, hm⟩ := hx
           obtain ⟨rfl, _⟩ := hm l hl
           have hjz : min m n * z ≤ n * z := Nat.mul_le_mul_right _ (Nat.min_le_right _ _)
           have hjz' : min m n * z ≤ m * z := Nat.mul_le_mul_right _ (Nat.min_le_left _ _)
           have hq2 := q2.length
           have hsz2 : vs.toList.length = vs.size := Array.length_toList
           simp only [Array.length_toList] at hq2
           have hone := oneCell_of c3 (by
            rw [List.all_eq_true] at hall ⊢
            exact fun u hu => hall u (List.mem_of_mem_take hu))
           rw [List.length_take, show min (min m n * z) new.length = vs.toList.length by omega, List.take_length] at hone
           obtain ⟨w', cells', h1, h2, h3⟩ := run_storeCells (P := P) vs.toList (i := 0) (o := o') q1 (by omega) q4 hone
           obtain ⟨r1, r2, r3⟩ := wrote_env (cs' := splice cs o' (new.take (min m n * z))) hH hX hi' hl h2 (by rw [← Array.length_toList, h3]; simp; omega) (by
            rw [h3]
            unfold splice
            rw [show (new.take (min m n * z)).length = vs.toList.length by rw [List.length_take]; omega]
            exact RepL.append (RepL.append (q2.take _) (by simp; omega) c3) (by simp; omega) (q2.drop _))
           exact ⟨{ E with w := w' }, _, .inl (head w' _ _ _ ex' rfl (fun ad e => by cases e; exact h1) (fun e => by cases e)), r1, r2, r3, rfl, rep_sc _⟩
       case h_2 full =>
        cases h
        simp only [elemsOf, Option.some.injEq, Prod.mk.injEq] at hox
        obtain ⟨rfl, rfl⟩ := hox
        simp only [RepV] at hx
        obtain ⟨ad, cap, ex', _⟩ := hx
        have h0 : vs = #[] := by apply Array.eq_empty_of_size_eq_zero; simpa using c2
        subst h0
        exact ⟨E, _, .inl (by simpa [goInt] using head E.w _ _ _ ex' rfl (fun ad e => by simp [storeCells]) (fun _ => rfl)), Ext.refl _, hH, hX, rfl, rep_sc _⟩
       case h_3 =>
        cases h
        simp only [elemsOf, Option.some.injEq, Prod.mk.injEq] at hox
        obtain ⟨rfl, rfl⟩ := hox
        exact ⟨E, _, .inl (by simpa [goInt] using head E.w _ _ _ (RepV.sc_inv hx) rfl (fun ad e => by cases e) (fun _ => rfl)), Ext.refl _, hH, hX, rfl, rep_sc _⟩
       case h_4 => cases h
theorem yc_clear (hT : TOk P T) (hH : RepH P E H) (hX : ∀ b, E.X b → b < E.w.heap.size) (hr : RepT E k t a) {o : Oper} {args : Array Operand} {ats : Array TypeId} (ho : o.op = .call { callee := .builtin .clear, args, argTypes := ats })
  {H' : Nat → Option Blk} {n' : Nat} (h : mop T t H E.N (.call { callee := .builtin .clear, args, argTypes := ats }) = some (r, H', n')) : Ym P E a o r H' n' := by
 simp only [mop] at h
 split at h
 case h_2 => cases h
 case h_1 i' o' m c st e1 e2 =>
  obtain ⟨p, rfl, ex⟩ : ∃ p, args = #[p] ∧ ev t p = .osl i' o' m c := by
   obtain ⟨l⟩ := args
   cases l with
   | nil => simp at e1
   | cons p l' =>
    cases l' with
    | nil => simp at e1; exact ⟨p, rfl, e1⟩
    | cons p2 l2 => simp at e1
  obtain rfl : ats = #[st] := by
   obtain ⟨l⟩ := ats; simp at e2; rw [e2]
  have hx := hr.ev p
  rw [ex] at hx
  split at h
  case h_2 => cases h
  case h_1 i hi =>
   split at h
   case h_2 => cases h
   case h_1 e hk =>
    split at h
    case h_2 => cases h
    case h_1 ie cs ety he hi' =>
     split at h
     case isFalse => cases h
     case isTrue hc =>
      obtain ⟨hzl, hz0, hle, hall⟩ := hc
      cases h
      obtain ⟨info, z, g1, g2, g3, g4, g5⟩ := (hT.row he).info
      have hzs : z.cells.size = ie.size := by rw [← hzl, ← g5]; simp
      have hze := zeros_eq z.cells m (by omega)
      obtain ⟨l, hl, cells, fz, info', q1, q2, q3, q4, q5, q6⟩ := hH.own i' _ hi'
      simp only [RepV] at hx
      obtain ⟨_, b, cap, ex', _, _, hm⟩ := hx
      obtain ⟨rfl, _⟩ := hm l hl
      have hq2 := q2.length
      simp only [Array.length_toList] at hq2
      have hc3 : RepL E ((List.replicate m ie.zero).flatten.map AV.sc) (Builtin.zeroCells z.cells m).toList := by
       unfold Builtin.zeroCells
       rw [hze, g5]; exact rep_scs _
      have hlz : ((List.replicate m ie.zero).flatten.map AV.sc).length = m * ie.size := by simp [hzl]
      have hone := oneCell_of hc3 hall
      have hzlen : (Builtin.zeroCells z.cells m).toList.length = m * ie.size := by simp [Builtin.zeroCells, hzs]
      rw [hlz, ← hzlen, List.take_length] at hone
      obtain ⟨w', cells', h1, h2, h3⟩ := run_storeCells (P := P) (Builtin.zeroCells z.cells m).toList (i := 0) (o := o') q1 (by rw [hzlen]; omega) q4 hone
      obtain ⟨r1, r2, r3⟩ := wrote_env (cs' := splice cs o' ((List.replicate m ie.zero).flatten.map .sc)) hH hX hi' hl h2 (by rw [← Array.length_toList, h3, List.length_append, List.length_append, hzlen, List.length_take, List.length_drop]; simp only [Array.length_toList]; omega) (by
       rw [h3]
       unfold splice
       rw [hlz, hzlen]
       exact RepL.append (RepL.append (q2.take _) (by simp; omega) hc3) (by rw [List.length_append, List.length_append, hlz, hzlen, List.length_take, List.length_take]; simp only [Array.length_toList]; omega) (q2.drop _))
      refine ⟨{ E with w := w' }, undef, .inl ?_, r1, r2, r3, rfl, by simp [RepV, RepL, undef]⟩
      unfold execOp; rw [ho]
      cases m with
      | zero =>
       have h1' : w' = E.w := by
        have : (Builtin.zeroCells z.cells 0).toList = [] := by simp [Builtin.zeroCells]
        rw [this] at h1
        simp [storeCells] at h1
        exact h1.symm
       subst h1'
       simp [resolve, invoke, builtin, Builtin.clear_, run_under ((hT.row hi).slice hk), ex', undef]
      | succ m =>
       simp [resolve, invoke, builtin, Builtin.clear_, run_under ((hT.row hi).slice hk), ex', run_zero g1 g4, h1, undef]
theorem frozen_env (hH : RepH P E H) (hX : ∀ b, E.X b → b < E.w.heap.size) {i : Nat} {cs : List AV} {ty : Nat} (hi : H i = some (.cells cs ty)) {l : Loc} (hl : E.m i = some l) {cells : Array Value} {fz : Nat × Nat}
  (hb : E.w.heap[l.b]? = some (.cells cells ty fz)) {w' : World} (hw : w' = E.w.freeze ⟨l.b, cells.size, none⟩ 1) :
  Ext E { E with w := w' } ∧ RepH P { E with w := w' } H ∧ (∀ b, E.X b → b < w'.heap.size) := by
 have hsz : w'.heap.size = E.w.heap.size := by rw [hw]; simp [World.freeze]
 have hother : ∀ c, c ≠ l.b → w'.heap[c]? = E.w.heap[c]? := fun c hc => by
  rw [hw]
  simp only [World.freeze]
  rw [if_neg (by decide)]
  simp only [Array.getElem?_modify]
  rw [if_neg (Ne.symm hc)]
 obtain ⟨fz', hfz, hblk⟩ : ∃ fz' : Nat × Nat, ((fz.1 = fz.2 ∨ cells.size ≤ fz.1) → (fz'.1 = fz'.2 ∨ cells.size ≤ fz'.1)) ∧ w'.heap[l.b]? = some (.cells cells ty fz') := by
  obtain ⟨lo, hi'⟩ := fz
  refine ⟨if lo == hi' then (cells.size, cells.size + 1) else (min lo cells.size, max hi' (cells.size + 1)), fun h => ?_, ?_⟩
  ·by_cases e : lo = hi'
   ·simp [e]
   ·have : cells.size ≤ lo := by rcases h with h | h; exact absurd h e; exact h
    right
    simp [e]; omega
  ·rw [hw]
   simp only [World.freeze]
   rw [if_neg (by decide)]
   simp only [Array.getElem?_modify, if_true, hb, Option.map_some]
 have hx : Ext E { E with w := w' } := ⟨rfl, Nat.le_refl _, by rw [hw]; rfl, by rw [hw]; rfl, by rw [hw]; rfl, by simp [hsz], fun b hb hm => hother b (fun e => hm i l hl e.symm), fun _ _ _ h => h, fun j l' h => .inr ⟨j, l', h, rfl⟩, fun b r hbr => by
  have hne : b ≠ l.b := by
   rintro rfl
   rw [hbr] at hb; cases hb
  exact ⟨r, (hother b hne).trans hbr⟩⟩
 refine ⟨hx, ⟨fun j blk hbj => ?_, fun j l' hl' => ?_, hH.inj, hH.glob.ext hx⟩, fun b hb => by rw [hsz]; exact hX b hb⟩
 ·by_cases e : j = i
  ·subst e
   rw [hi] at hbj; cases hbj
   obtain ⟨l', hl', cells2, fz2, info, h1, h2, h3, h4, h5, h6⟩ := hH.own j _ hi
   rw [hl] at hl'; cases hl'
   rw [hb] at h1; cases h1
   exact ⟨l, hl, cells, fz', info, hblk, RepL.ext hx _ _ h2, h3, hfz h4, h5, h6⟩
  ·obtain ⟨l', hl', hr⟩ := hH.own j blk hbj
   exact ⟨l', hl', RepB.ext hx (hother _ fun e' => e (hH.inj j i l' l hl' hl e')) hr⟩
 ·obtain ⟨h1, h2, h3, h4⟩ := hH.lt j l' hl'
  exact ⟨h1, by rw [hsz]; exact h2, h3, h4⟩
theorem forget_rep (hH : RepH P E H) (hX : ∀ b, E.X b → b < E.w.heap.size) (i : Nat) : Ext E { E with m := upd E.m i none } ∧ RepH P { E with m := upd E.m i none } (upd H i none) := by
 have hx : Ext E { E with m := upd E.m i none } := ⟨rfl, Nat.le_refl _, rfl, rfl, rfl, Nat.le_refl _, fun _ _ _ => rfl, fun j l hj hl => by
  simp only at hl
  by_cases e : j = i
  ·subst e; rw [upd_same] at hl; cases hl
  ·rwa [upd_ne _ _ e] at hl, fun j l hl => by
  simp only at hl
  by_cases e : j = i
  ·subst e; rw [upd_same] at hl; cases hl
  ·rw [upd_ne _ _ e] at hl; exact .inr ⟨j, l, hl, rfl⟩, fun _ r h => ⟨r, h⟩⟩
 refine ⟨hx, ⟨fun j blk hb => ?_, fun j l hl => ?_, fun j q l l' hj hq e => ?_, hH.glob.ext hx⟩⟩
 ·by_cases e : j = i
  ·subst e; rw [upd_same] at hb; cases hb
  ·rw [upd_ne _ _ e] at hb
   obtain ⟨l, hl, hr⟩ := hH.own j blk hb
   exact ⟨l, by simp only; rw [upd_ne _ _ e]; exact hl, RepB.ext hx rfl hr⟩
 ·simp only at hl
  by_cases e : j = i
  ·subst e; rw [upd_same] at hl; cases hl
  ·rw [upd_ne _ _ e] at hl
   rw [upd_ne _ _ e]
   exact hH.lt j l hl
 ·simp only at hj hq
  by_cases e1 : j = i
  ·subst e1; rw [upd_same] at hj; cases hj
  ·by_cases e2 : q = i
   ·subst e2; rw [upd_same] at hq; cases hq
   ·rw [upd_ne _ _ e1] at hj; rw [upd_ne _ _ e2] at hq
    exact hH.inj j q l l' hj hq e
theorem rename_rep (hH : RepH P E H) (hX : ∀ b, E.X b → b < E.w.heap.size) {i : Nat} {blk : Blk} {l : Loc} (hi : H i = some blk) (hl : E.m i = some l) :
  Ext E { E with m := upd (upd E.m i none) E.N (some l), N := E.N + 1 } ∧ RepH P { E with m := upd (upd E.m i none) E.N (some l), N := E.N + 1 } (upd (upd H i none) E.N (some blk)) := by
 have hlt := (hH.lt i l hl).1
 have get : ∀ {j : Nat} {l' : Loc}, upd (upd E.m i none) E.N (some l) j = some l' → (j = E.N ∧ l' = l) ∨ (j ≠ E.N ∧ j ≠ i ∧ E.m j = some l') := by
  intro j l' h
  by_cases e : j = E.N
  ·subst e; rw [upd_same] at h; cases h; exact .inl ⟨rfl, rfl⟩
  ·rw [upd_ne _ _ e] at h
   by_cases e2 : j = i
   ·subst e2; rw [upd_same] at h; cases h
   ·rw [upd_ne _ _ e2] at h; exact .inr ⟨e, e2, h⟩
 have hx : Ext E { E with m := upd (upd E.m i none) E.N (some l), N := E.N + 1 } := by
  refine ⟨rfl, Nat.le_succ _, rfl, rfl, rfl, Nat.le_refl _, fun _ _ _ => rfl, fun j l' hj h => ?_, fun j l' h => ?_, fun _ r h => ⟨r, h⟩⟩
  ·rcases get h with ⟨rfl, rfl⟩ | ⟨_, _, h⟩
   ·omega
   ·exact h
  ·rcases get h with ⟨rfl, rfl⟩ | ⟨_, _, h⟩
   ·exact .inr ⟨i, l', hl, rfl⟩
   ·exact .inr ⟨j, l', h, rfl⟩
 refine ⟨hx, ⟨fun j blk' hb => ?_, fun j l' h => ?_, fun j q l' l'' hj hq e => ?_, hH.glob.ext hx⟩⟩
 ·by_cases e : j = E.N
  ·subst e; rw [upd_same] at hb; cases hb
   obtain ⟨l', hl', hr⟩ := hH.own i blk hi
   rw [hl] at hl'; cases hl'
   exact ⟨l, by simp only; rw [upd_same], RepB.ext hx rfl hr⟩
  ·rw [upd_ne _ _ e] at hb
   by_cases e2 : j = i
   ·subst e2; rw [upd_same] at hb; cases hb
   ·rw [upd_ne _ _ e2] at hb
    obtain ⟨l', hl', hr⟩ := hH.own j blk' hb
    exact ⟨l', by simp only; rw [upd_ne _ _ e, upd_ne _ _ e2]; exact hl', RepB.ext hx rfl hr⟩
 ·rcases get h with ⟨rfl, rfl⟩ | ⟨h1, h2, h⟩
  ·obtain ⟨_, q2, q3, _⟩ := hH.lt i l' hl
   exact ⟨Nat.lt_succ_self _, q2, q3, blk, upd_same _ _ _⟩
  ·obtain ⟨q1, q2, q3, q4⟩ := hH.lt j l' h
   exact ⟨Nat.lt_succ_of_lt q1, q2, q3, by rw [upd_ne _ _ h1, upd_ne _ _ h2]; exact q4⟩
 ·rcases get hj with ⟨rfl, rfl⟩ | ⟨h1, h2, h⟩ <;> rcases get hq with ⟨rfl, rfl⟩ | ⟨g1, g2, g⟩
  ·rfl
  ·exact absurd (hH.inj i q l' l'' hl g e).symm g2
  ·exact absurd (hH.inj j i l' l'' h hl e) h2
  ·exact hH.inj j q l' l'' h g e
theorem drawn_rep (hH : RepH P E H) (d : Nat) : Ext E { E with w := { E.w with drawn := d } } ∧ RepH P { E with w := { E.w with drawn := d } } H := by
 have hx : Ext E { E with w := { E.w with drawn := d } } := ⟨rfl, Nat.le_refl _, rfl, rfl, rfl, Nat.le_refl _, fun _ _ _ => rfl, fun _ _ _ h => h, fun j l h => .inr ⟨j, l, h, rfl⟩, fun _ r h => ⟨r, h⟩⟩
 exact ⟨hx, ⟨fun i blk hb => by obtain ⟨l, hl, hr⟩ := hH.own i blk hb; exact ⟨l, hl, RepB.ext hx rfl hr⟩, hH.lt, hH.inj, hH.glob.ext hx⟩⟩
theorem growBy_le (n : Nat) : ∀ (k c : Nat), c ≤ n + (n + 768) / 4 → Builtin.growBy n k c ≤ n + (n + 768) / 4
 | 0, c, h => h
 | k + 1, c, h => by
  simp only [Builtin.growBy]
  split
  ·exact h
  ·exact growBy_le n k _ (by omega)
theorem nextcap_le {need old : Nat} (h : old < need) : Builtin.nextslicecap need old ≤ 2 * need + 200 := by
 unfold Builtin.nextslicecap
 split
 ·omega
 ·split
  ·omega
  ·have := growBy_le need 4 old (by omega)
   omega
theorem run_append_grow (hT : TOk P T) (hH : RepH P E H) (hX : ∀ b, E.X b → b < E.w.heap.size) {e st xt : Nat} {ie : TI} (he : T e = some ie) (hst : P.underlying st = some (.slice e)) (hxt : ∃ d, P.underlying xt = some d ∧ (d matches .int _) = false)
  {x y : AV} {u v : Value} (hx : RepV E x u) (hy : RepV E y v) {kk m : Nat} {old new : List AV} (hox : elemsOf H ie.size x = some (kk, old)) (hoy : elemsOf H ie.size y = some (m, new))
  (hb : (kk + m) * ie.bytes ≤ roomMax) (hm : kk + m ≤ roomMax) (hby : ie.bytes ≤ 2 ^ 20) (hz0 : 0 < ie.size) (hzl : ie.zero.length = ie.size) {base : Option Addr} {sc : Nat} (hu : u = .slice base kk sc) (hcap : sc < kk + m) (ty : TypeId) :
  ∃ newCap cells, (Builtin.append_ #[st, xt] ty #[u, v]).run P E.w = .ok (.slice (some ⟨E.w.heap.size, 0, none⟩) (kk + m) newCap) (pushW { E.w with drawn := E.w.drawn + 1 } (.cells cells e)) ∧ kk + m ≤ newCap ∧
   cells.size = newCap * ie.size ∧ RepL { E with w := { E.w with drawn := E.w.drawn + 1 } } (old ++ new) cells.toList := by
 obtain ⟨info, z, g1, g2, g3, g4, g5⟩ := (hT.row he).info
 obtain ⟨d, hd1, hd2⟩ := hxt
 have hzs : z.cells.size = ie.size := by rw [← hzl, ← g5]; simp
 obtain ⟨hx1, hH1⟩ := drawn_rep hH (E.w.drawn + 1)
 obtain ⟨a1, a2, a3⟩ := run_elems (P := P) hH hx hox
 obtain ⟨b1, b2, b3⟩ := run_elems (P := P) hH hy hoy
 obtain ⟨_, _, a3'⟩ := run_elems (P := P) hH1 (RepV.ext hx1 _ _ hx) hox
 obtain ⟨_, _, b3'⟩ := run_elems (P := P) hH1 (RepV.ext hx1 _ _ hy) hoy
 obtain ⟨vo, c1, c2, c3⟩ := a3' kk (Nat.le_refl _)
 obtain ⟨vn, d1, d2, d3⟩ := b3' m (Nat.le_refl _)
 rw [← a2, List.take_length] at c3
 rw [← b2, List.take_length] at d3
 obtain ⟨newCap, hcut, hge⟩ : ∃ c, Question.cut (.appendCap (kk + m) sc e) (E.w.tape E.w.drawn (.appendCap (kk + m) sc e)) = c ∧ kk + m ≤ c := ⟨_, rfl, by simp [Question.cut]⟩
 have hz0' : 0 < z.cells.size := by omega
 have hsz : (vo ++ vn ++ Builtin.zeroCells z.cells (newCap - (kk + m))).size = newCap * ie.size := by
  simp [Builtin.zeroCells, c2, d2, hzs, Nat.sub_mul, Nat.add_mul]
  have : (kk + m) * ie.size ≤ newCap * ie.size := Nat.mul_le_mul_right _ hge
  rw [Nat.add_mul] at this
  omega
 refine ⟨newCap, vo ++ vn ++ Builtin.zeroCells z.cells (newCap - (kk + m)), ?_, hge, hsz, ?_⟩
 ·have hr : roomMax = 2 ^ 46 := rfl
  have hnx := nextcap_le hcap
  have hlim : ¬ (Builtin.nextslicecap (kk + m) sc * info.bytes > 2 ^ 48) := by
   rw [g3]
   have := Nat.mul_le_mul_right ie.bytes hnx
   rw [Nat.add_mul, Nat.mul_assoc] at this
   omega
  have hmax : ¬ (((kk + m : Nat) : Int) > IntKind.i64.max ∧ (False ∨ info.bytes = 0)) := by
   have : IntKind.i64.max = 9223372036854775807 := by decide
   omega
  have hzb : (match (d : TypeDesc) with | .int _ => true | _ => false) = false := by
   cases d <;> first | rfl | (simp at hd2)
  rw [hu] at c1 ⊢
  have hneed : ¬ (kk + m ≤ sc) := by omega
  unfold Builtin.append_
  cases d with
  | int k => simp at hd2
  | _ =>
   simp only [List.getElem?_toArray, List.getElem?_cons_zero, List.getElem?_cons_succ, Sem.run_bind, run_under hst, run_under hd1, run_size g1, g2, Result.andThen_ok, Sem.run_pure, Bool.false_eq_true, if_false, Bool.not_false, if_true]
   simp only [b1, Sem.run_bind, Result.andThen_ok]
   rw [if_neg hneed]
   simp only [Sem.run_bind, run_info g1, Result.andThen_ok]
   rw [if_neg hmax]
   simp only [Sem.run_bind, run_info g1, Result.andThen_ok]
   rw [if_neg hlim]
   simp only [Sem.run_bind, run_info g1, Result.andThen_ok, run_choose, Question.forced, Bool.false_eq_true, if_false, run_askRoom]
   simp only [hcut]
   simp only [c1, d1, Result.andThen_ok, Sem.run_bind, run_zero g1 g4, newRow, run_newObj, Sem.run_pure]
   rfl
 ·rw [Array.toList_append]
  refine RepL.more ?_
  rw [Array.toList_append]
  exact RepL.append c3 (by rw [a2, Array.length_toList, c2]) d3
theorem ym_convert (hT : TOk P T) (hH : RepH P E H) (hX : ∀ b, E.X b → b < E.w.heap.size) (hr : RepT E k t a) {o : Oper} {src dst : TypeId} {x : Operand} (ho : o.op = .convert src dst x)
  {H' : Nat → Option Blk} {n' : Nat} (h : mop T t H E.N (.convert src dst x) = some (r, H', n')) : Ym P E a o r H' n' := by
 simp only [mop] at h
 split at h
 case h_3 => cases h
 case h_2 s ex =>
  have hx := hr.ev x
  rw [ex] at hx
  have ex' := RepV.sc_inv hx
  split at h
  case h_2 => cases h
  case h_1 it jt hi hj =>
   split at h
   case h_2 => cases h
   case h_1 e hk1 hk2 =>
    split at h
    case isFalse => cases h
    case isTrue hc =>
     obtain ⟨h8, hs1, hsz⟩ := hc
     cases h
     obtain ⟨ie, he, _⟩ : ∃ ie, T e = some ie ∧ True := by
      unfold isU8 at h8
      cases he : T e with
      | none => rw [he] at h8; cases h8
      | some ie => exact ⟨ie, rfl, trivial⟩
     obtain ⟨info, z, g1, g2, _⟩ := (hT.row he).info
     have gs : info.size = 1 := by rw [g2]; unfold sizeT at hs1; rw [he] at hs1; simpa using hs1
     obtain ⟨hx1, hH1⟩ := drawn_rep hH (E.w.drawn + 1)
     have hcells : RepL { E with w := { E.w with drawn := E.w.drawn + 1 } } (s.data.toList.map fun b => AV.sc (.int .u8 b.toNat)) (Lib.bytesCells E.w e s).toList := by
      rw [RepL.iff]
      refine ⟨by simp [Lib.bytesCells], fun q av hq => ?_⟩
      simp only [List.getElem?_map, Option.map_eq_some_iff] at hq
      obtain ⟨b, hb, rfl⟩ := hq
      refine ⟨.int .u8 b.toNat, ?_, by simp [RepV]⟩
      have hlt := (List.getElem?_eq_some_iff.1 hb).1
      simp only [Lib.bytesCells, Array.toList_append, Array.toList_map]
      rw [List.getElem?_append_left (by simpa using hlt), List.getElem?_map, hb]; rfl
     obtain ⟨q1, q2⟩ := newEnv_rep hH1 hX (info := info) g1 hcells
     have hl : (newEnv { E with w := { E.w with drawn := E.w.drawn + 1 } } (Lib.bytesCells E.w e s) e info.size).m E.N = some ⟨E.w.heap.size, (Lib.bytesCells E.w e s).size, info.size⟩ := by simp only [newEnv]; exact upd_same _ _ _
     obtain ⟨r1, r2, r3⟩ := frozen_env (P := P) q1 q2 (upd_same _ _ _) hl push_new rfl
     refine ⟨_, .slice (some ⟨E.w.heap.size, 0, none⟩) s.size (grownCap E.w s.size 0 e), .inl ?_, (hx1.trans (newEnv_ext hH1)).trans r1, r2, r3, rfl, ?_⟩
     ·unfold execOp; rw [ho]
      simp only [ex', Sem.run_bind]
      rw [Lib.run_convert_string_bytes E.w src dst e s ((hT.row hi).str hk1) ((hT.row hj).slice hk2) (isU8_row hT h8)]
      rfl
     ·simp only [RepV]
      refine ⟨Nat.lt_succ_self _, _, _, rfl, ?_, (fun q hq => by cases hq), fun l hl' => ?_⟩
      ·exact grownCap_ge _ _ _ _
      ·rw [hl] at hl'; cases hl'
       refine ⟨rfl, fun _ => ?_⟩
       rw [gs]
       have := grownCap_ge E.w s.size 0 e
       have e1 : s.data.size = s.size := rfl
       simp [Lib.bytesCells, e1]
       omega
 case h_1 i' o' m c ex =>
  have hx := hr.ev x
  rw [ex] at hx
  split at h
  case h_2 => cases h
  case h_1 it hi =>
   split at h
   case h_2 => cases h
   case h_1 e cs ety hk hi' =>
    split at h
    case isFalse => cases h
    case isTrue hc =>
     obtain ⟨rfl, h8⟩ := hc
     cases h
     obtain ⟨l, hl, cells, fz, info', q1, q2, q3, q4, q5, q6⟩ := hH.own i' _ hi'
     have hx2 := hx
     simp only [RepV] at hx
     obtain ⟨_, b, cap, ex', _, _, hm⟩ := hx
     obtain ⟨rfl, _⟩ := hm l hl
     obtain ⟨r1, r2, r3⟩ := frozen_env (P := P) hH hX hi' hl q1 rfl
     have hsh : E.w.shape? l.b = some (ety, cells.size) := by unfold World.shape?; rw [q1]
     refine ⟨{ E with w := E.w.freeze ⟨l.b, cells.size, none⟩ 1 }, _, .inl ?_, r1, r2, r3, rfl, RepV.ext r1 _ _ hx2⟩
     unfold execOp; rw [ho]
     simp [convert, run_under ((hT.row hi).slice hk), run_under (isU8_row hT h8), ex', markStringish, hsh]
end
section
variable {P : Program} {T : Tab} {E : Env} {H : Nat → Option Blk} {k : Nat} {t : Nat → AV} {a : Act} {r : AV}
theorem Row.map {t : Nat} {i : TI} (r : Row P t i) {kt et : Nat} (h : i.k = .map kt et) : P.underlying t = some (.map kt et) := by
 obtain ⟨d, h1, _, h2⟩ := r.under
 rw [h] at h2; cases d <;> simp [TK.fits] at h2; rw [h1, h2.1, h2.2]
theorem zero_run (hT : TOk P T) {et : Nat} {z : AV} (h : zeroAV T et = some z) (E : Env) : ∃ v, (zeroValue et).run P E.w = .ok v E.w ∧ RepV E z v := by
 unfold zeroAV at h
 split at h
 case h_2 => cases h
 case h_1 i hi =>
  split at h
  case isTrue hk =>
   cases h
   obtain ⟨info, z, h1, h2, h3⟩ := (hT _ _ hi).agg hk
   exact ⟨_, run_zero h1 h2, by simp only [RepV]; exact ⟨z, rfl, by rw [h3]; simp, by rw [h3]; exact rep_scs _⟩⟩
  case isFalse hk =>
   obtain ⟨info, z, h1, h2, h3⟩ := (hT _ _ hi).one (by simpa using hk)
   rw [h3] at h
   simp only at h
   cases h
   exact ⟨z, run_zero h1 h2, rep_sc _⟩
theorem mapK_run (hT : TOk P T) {mt : Nat} {kk : TK} {et : Nat} (h : mapK T mt = some (kk, et)) : ∃ kt d, P.underlying mt = some (.map kt et) ∧ P.underlying kt = some d ∧ TK.fits d kk = true := by
 unfold mapK at h
 split at h
 case h_2 => cases h
 case h_1 i hi =>
  split at h
  case h_2 => cases h
  case h_1 kt et' hk =>
   simp only [Option.map_eq_some_iff] at h
   obtain ⟨ki, hki, e⟩ := h
   simp only [Prod.mk.injEq] at e
   obtain ⟨rfl, rfl⟩ := e
   obtain ⟨d, h1, _, h2⟩ := (hT.row hki).under
   exact ⟨kt, d, (hT.row hi).map hk, h1, h2⟩
theorem checkKey_run {kt : Nat} {d : TypeDesc} {kk : TK} {v : Value} {e : Bool} (hd : P.underlying kt = some d) (hf : TK.fits d kk = true) (hk : keyOk kk v = true) (w : World) : (Instr.checkKey e 10000 kt v).run P w = .ok () w := by
 unfold Instr.checkKey
 simp only [Sem.run_bind, run_under hd, Result.andThen_ok]
 cases kk <;> simp [keyOk] at hk <;> cases d <;> simp [TK.fits] at hf <;> cases v <;> simp [keyOk] at hk <;> rfl
theorem sameNow_eq {d : TypeDesc} {kk : TK} {v u : Value} (hf : TK.fits d kk = true) (hk : keyOk kk v = true) {b : Bool} (h : keyEq v u = some b) : Instr.sameNow d v u = some b := by
 cases kk <;> simp [keyOk] at hk <;> cases d <;> simp [TK.fits] at hf <;> cases v <;> simp [keyOk] at hk <;> cases u <;> simp [keyEq] at h <;> simp [Instr.sameNow, h]
theorem bytes_beq {a b : ByteArray} (h : (a == b) = true) : a = b := by
 cases a; cases b
 have : ∀ x y : Array UInt8, (ByteArray.mk x == ByteArray.mk y) = (x == y) := fun x y => rfl
 rw [this] at h
 rw [eq_of_beq h]
theorem bytes_refl (a : ByteArray) : (a == a) = true := by
 cases a
 have : ∀ x y : Array UInt8, (ByteArray.mk x == ByteArray.mk y) = (x == y) := fun x y => rfl
 rw [this]; simp
theorem keyEq_true {v u : Value} (h : keyEq v u = some true) : u = v := by
 unfold keyEq at h
 split at h
 ·split at h
  ·rename_i e; simp at h; rw [e, h]
  ·cases h
 ·simp only [Option.some.injEq] at h; rw [bytes_beq h]
 ·simp at h; rw [h]
 ·cases h
theorem find_now {d : TypeDesc} {kk : TK} {v : Value} (hf : TK.fits d kk = true) (hk : keyOk kk v = true) : ∀ (es : List (Value × AV × Nat)) (ents : List MapEntry) (i : Nat) {r : Option (Nat × AV × Nat)}, es.map (·.1) = ents.map (·.key) → findAV v es i = some r →
  Instr.findNow d v ents i = some (r.map fun x => (x.1, ((ents[x.1 - i]?).map (·.val)).getD undef)) ∧ ∀ j y b, r = some (j, y, b) → i ≤ j ∧ es[j - i]? = some (v, y, b)
 | [], [], i, r, _, h => by simp [findAV] at h; subst h; simp [Instr.findNow]
 | [], _ :: _, i, r, he, _ => by simp at he
 | _ :: _, [], i, r, he, _ => by simp at he
 | (u, x, b) :: es, e :: ents, i, r, he, h => by
  simp only [List.map_cons, List.cons.injEq] at he
  simp only [findAV] at h
  simp only [Instr.findNow]
  rw [← he.1]
  cases hq : keyEq v u with
  | none => rw [hq] at h; cases h
  | some q =>
   rw [hq] at h
   rw [sameNow_eq hf hk hq]
   cases q with
   | true =>
    cases h
    refine ⟨by simp, fun j y b' e' => ?_⟩
    cases e'
    exact ⟨Nat.le_refl _, by simp [keyEq_true hq]⟩
   | false =>
    obtain ⟨h1, h2⟩ := find_now hf hk es ents (i + 1) he.2 h
    refine ⟨?_, fun j y b' e' => ?_⟩
    ·simp only [h1]
     cases r with
     | none => rfl
     | some x =>
      obtain ⟨g1, g2⟩ := h2 x.1 x.2.1 x.2.2 rfl
      simp only [Option.map_some]
      rw [show x.1 - i = (x.1 - (i + 1)) + 1 by omega]
      rfl
    ·obtain ⟨g1, g2⟩ := h2 j y b' e'
     refine ⟨by omega, ?_⟩
     rw [show j - i = (j - (i + 1)) + 1 by omega]
     simpa using g2
theorem find_run {kt : Nat} {d : TypeDesc} {kk : TK} {v : Value} (hd : P.underlying kt = some d) (hf : TK.fits d kk = true) (hk : keyOk kk v = true) {es : List (Value × AV × Nat)} {ents : List MapEntry} {r : Option (Nat × AV × Nat)} (he : es.map (·.1) = ents.map (·.key)) (h : findAV v es 0 = some r) (w : World) :
  (Instr.findKey kt v ents).run P w = .ok (r.map fun x => (x.1, ((ents[x.1]?).map (·.val)).getD undef)) w := by
 unfold Instr.findKey
 simp only [Sem.run_bind, run_under hd, Result.andThen_ok]
 have := (find_now hf hk es ents 0 he h).1
 simp only [Nat.sub_zero] at this
 rw [this]
 rfl
theorem run_getMap {w : World} {b c : Nat} {ents : Array MapEntry} (h : w.heap[b]? = some (.map ents c)) : (getObj b).run P w = .ok (.map ents c) w := by simp [getObj, Sem.run, h]
theorem run_setMap {w : World} {b c : Nat} {ents : Array MapEntry} (o : Obj) (h : w.heap[b]? = some (.map ents c)) : (setObj b o).run P w = .ok () { w with heap := w.heap.setIfInBounds b o } := by simp [setObj, Sem.run, h]
theorem ent_at {es : List (Value × AV × Nat)} {ents : Array MapEntry} (hk : es.map (·.1) = ents.toList.map (·.key)) (hb : es.map (·.2.2) = ents.toList.map (·.born)) (hv : RepL E (es.map (·.2.1)) (ents.toList.map (·.val))) {j : Nat} {v : Value} {y : AV} {b : Nat} (h : es[j]? = some (v, y, b)) :
  ∃ e, ents[j]? = some e ∧ e.key = v ∧ e.born = b ∧ RepV E y e.val := by
 have h1 : (es.map (·.1))[j]? = some v := by simp [h]
 rw [hk] at h1
 simp only [List.getElem?_map, Option.map_eq_some_iff, Array.getElem?_toList] at h1
 obtain ⟨e, he, rfl⟩ := h1
 refine ⟨e, he, rfl, ?_, ?_⟩
 ·have h2 : (es.map (·.2.2))[j]? = some b := by simp [h]
  rw [hb] at h2
  simp only [List.getElem?_map, Option.map_eq_some_iff, Array.getElem?_toList] at h2
  obtain ⟨e', he', h2⟩ := h2
  rw [he] at he'; cases he'; exact h2
 ·obtain ⟨u, hu, hr⟩ := hv.get (i := j) (a := y) (by simp [h])
  simp only [List.getElem?_map, Option.map_eq_some_iff, Array.getElem?_toList] at hu
  obtain ⟨e', he', rfl⟩ := hu
  rw [he] at he'; cases he'; exact hr
theorem map_obj (hH : RepH P E H) {x : AV} {es : List (Value × AV × Nat)} {u : Value} (hx : RepV E x u) (h : mapOf H x = some es) :
  (u = .map none ∧ es = []) ∨ ∃ i l c ents, x = .omap i ∧ H i = some (.map es c) ∧ E.m i = some l ∧ u = .map (some l.b) ∧ E.w.heap[l.b]? = some (.map ents c) ∧ es.map (·.1) = ents.toList.map (·.key) ∧ es.map (·.2.2) = ents.toList.map (·.born) ∧ RepL E (es.map (·.2.1)) (ents.toList.map (·.val)) := by
 unfold mapOf at h
 split at h
 ·rename_i i
  split at h
  ·rename_i es' c hi
   cases h
   right
   simp only [RepV] at hx
   obtain ⟨_, b, rfl, hb⟩ := hx
   obtain ⟨l, hl, ents, h1, h2, h3, h4⟩ := hH.own i _ hi
   exact ⟨i, l, c, ents, rfl, hi, hl, by rw [hb l hl], h1, h2, h3, h4⟩
  ·cases h
 ·cases h; left; exact ⟨RepV.sc_inv hx, rfl⟩
 ·cases h
theorem yv_lookup (hT : TOk P T) (hH : RepH P E H) (hr : RepT E k t a) {o : Oper} {xt : TypeId} {x ix : Operand} {ok : Bool} (ho : o.op = .lookup xt x ix ok) (h : vop T t H (.lookup xt x ix ok) = some r) : Yv P E a o r := by
 simp only [vop] at h
 have hx := hr.ev x
 have hi := hr.ev ix
 split at h
 case h_2 => cases h
 case h_1 kk et es v hmk hmo hiv =>
  split at h
  case isFalse => cases h
  case isTrue hk =>
   obtain ⟨kt, d, u1, u2, u3⟩ := mapK_run hT hmk
   rw [hiv] at hi
   have hi' := RepV.sc_inv hi
   have main : ∀ ents : Array MapEntry, ((a.eval x = .map none ∧ ents = #[]) ∨ ∃ b c, a.eval x = .map (some b) ∧ E.w.heap[b]? = some (.map ents c)) → es.map (·.1) = ents.toList.map (·.key) → es.map (·.2.2) = ents.toList.map (·.born) → RepL E (es.map (·.2.1)) (ents.toList.map (·.val)) → Yv P E a o r := by
    intro ents hrun he hb hv
    split at h
    case h_1 j y b hfind =>
     cases h
     obtain ⟨e, g1, g2, g3, g4⟩ := ent_at he hb hv ((find_now u3 hk es ents.toList 0 he hfind).2 j y b rfl).2
     simp only [Nat.sub_zero] at g1
     refine ⟨if ok then .tuple #[e.val, .bool true] else e.val, ?_, ?_⟩
     ·unfold execOp; rw [ho]
      have hf := find_run u2 u3 hk he hfind E.w
      rcases hrun with ⟨e1, e2⟩ | ⟨bb, cc, e1, e2⟩
      ·subst e2
       simp at g1
      ·simp only [Instr.lookup, Sem.run_bind, run_under u1, Result.andThen_ok, e1, run_getMap e2, hi', checkKey_run u2 u3 hk, hf, Sem.run_pure, Option.map_some, Array.getElem?_toList, g1, Option.getD_some]
     ·cases ok
      ·simpa using g4
      ·simp only [if_true, RepV]; exact ⟨_, rfl, rfl, by simp [RepL, g4, RepV]⟩
    case h_2 hfind =>
     simp only [Option.map_eq_some_iff] at h
     obtain ⟨z, hz, rfl⟩ := h
     obtain ⟨zv, hz1, hz2⟩ := zero_run hT hz E
     refine ⟨if ok then .tuple #[zv, .bool false] else zv, ?_, ?_⟩
     ·unfold execOp; rw [ho]
      have hf := find_run u2 u3 hk he hfind E.w
      rcases hrun with ⟨e1, e2⟩ | ⟨bb, cc, e1, e2⟩
      ·subst e2
       simp only [Instr.lookup, Sem.run_bind, run_under u1, Result.andThen_ok, e1, hi', checkKey_run u2 u3 hk, hf, Sem.run_pure, Option.map_none, hz1]
      ·simp only [Instr.lookup, Sem.run_bind, run_under u1, Result.andThen_ok, e1, run_getMap e2, hi', checkKey_run u2 u3 hk, hf, Sem.run_pure, Option.map_none, hz1]
     ·cases ok
      ·simpa using hz2
      ·simp only [if_true, RepV]; exact ⟨_, rfl, rfl, by simp [RepL, hz2, RepV]⟩
    case h_3 => cases h
   rcases map_obj hH hx hmo with ⟨e1, rfl⟩ | ⟨i, l, c, ents, e0, e1, e2, e3, e4, e5, e6, e7⟩
   ·exact main #[] (.inl ⟨e1, rfl⟩) rfl rfl (by simp [RepL])
   ·exact main ents (.inr ⟨_, _, e3, e4⟩) e5 e6 e7
theorem map_env (hH : RepH P E H) (hX : ∀ b, E.X b → b < E.w.heap.size) {i : Nat} {l : Loc} {c c' : Nat} {ents ents' : Array MapEntry} {es' : List (Value × AV × Nat)} (hl : E.m i = some l) (hb : E.w.heap[l.b]? = some (.map ents c))
  (h1 : es'.map (·.1) = ents'.toList.map (·.key)) (h2 : es'.map (·.2.2) = ents'.toList.map (·.born)) (h3 : RepL E (es'.map (·.2.1)) (ents'.toList.map (·.val))) :
  Ext E (E.pobj l.b (.map ents' c')) ∧ RepH P (E.pobj l.b (.map ents' c')) (upd H i (some (.map es' c'))) ∧ (∀ b, (E.pobj l.b (.map ents' c')).X b → b < (E.pobj l.b (.map ents' c')).w.heap.size) := by
 have hc : ∀ c1 t f, Obj.map ents c ≠ .cells c1 t f := fun c1 t f h => by cases h
 refine ⟨(Ext.refl E).pobj (.inl ⟨i, l, hl, rfl⟩) (fun r h => by rw [hb] at h; cases h), hH.pobjAt hb hc hl ⟨ents', ?_, h1, h2, RepL.pobj hb hc _ _ h3⟩, fun b' hb' => by simpa [Env.pobj] using hX b' hb'⟩
 simp [Env.pobj, lt_of_block hb]
theorem keys_stay {v : Value} {e : MapEntry} {kk : TK} (hk : keyOk kk v = true) (he : e.key = v) (w : World) : (Instr.keyThatStays e.key v).run P w = .ok v w := by
 unfold Instr.keyThatStays
 have : Instr.sameBits 10000 e.key v = true := by
  rw [he]
  cases kk <;> simp [keyOk] at hk <;> cases v <;> simp [keyOk] at hk <;> simp [Instr.sameBits, bytes_refl]
 rw [this]; rfl
theorem set_keys {es : List (Value × AV × Nat)} {ents : Array MapEntry} {j : Nat} {v val : Value} {y z : AV} {b : Nat} {e : MapEntry} (hk : es.map (·.1) = ents.toList.map (·.key)) (hb : es.map (·.2.2) = ents.toList.map (·.born)) (hv : RepL E (es.map (·.2.1)) (ents.toList.map (·.val)))
  (h : es[j]? = some (v, y, b)) (he : ents[j]? = some e) (hz : RepV E z val) (f : MapEntry → MapEntry) (hf : f e = { e with key := v, val := val }) :
  (es.set j (v, z, b)).map (·.1) = (ents.modify j f).toList.map (·.key) ∧ (es.set j (v, z, b)).map (·.2.2) = (ents.modify j f).toList.map (·.born) ∧ RepL E ((es.set j (v, z, b)).map (·.2.1)) ((ents.modify j f).toList.map (·.val)) := by
 obtain ⟨e', g1, g2, g3, g4⟩ := ent_at hk hb hv h
 rw [he] at g1; cases g1
 have hm : (ents.modify j f).toList = ents.toList.set j (f e) := by
  apply List.ext_getElem?
  intro q
  simp only [Array.getElem?_toList, Array.getElem?_modify, List.getElem?_set]
  by_cases hq : j = q
  ·subst hq
   have := (Array.getElem?_eq_some_iff.1 he).1
   have e2 := (Array.getElem?_eq_some_iff.1 he).2
   simp [this, e2]
  ·simp [hq]
 have hfk : (f e).key = v ∧ (f e).born = e.born ∧ (f e).val = val := by rw [hf]; exact ⟨rfl, rfl, rfl⟩
 refine ⟨?_, ?_, ?_⟩
 ·rw [hm, List.map_set, List.map_set, hk]; simp only [hfk.1]
 ·rw [hm, List.map_set, List.map_set, hb]; simp only [hfk.2.1, g3]
 ·rw [hm, List.map_set, List.map_set]; simp only [hfk.2.2]
  rw [RepL.iff] at hv ⊢
  refine ⟨by simpa using hv.1, fun q x hq => ?_⟩
  rw [List.getElem?_set] at hq ⊢
  by_cases hqj : j = q
  ·subst hqj
   have h1 := (List.getElem?_eq_some_iff.1 h).1
   have h2 := (Array.getElem?_eq_some_iff.1 he).1
   simp at hq ⊢
   obtain ⟨_, rfl⟩ := hq
   exact ⟨_, ⟨h2, rfl⟩, hz⟩
  ·rw [if_neg hqj] at hq ⊢
   exact hv.2 q x hq
theorem push_keys {es : List (Value × AV × Nat)} {ents : Array MapEntry} {v val : Value} {z : AV} {c : Nat} (hk : es.map (·.1) = ents.toList.map (·.key)) (hb : es.map (·.2.2) = ents.toList.map (·.born)) (hv : RepL E (es.map (·.2.1)) (ents.toList.map (·.val))) (hz : RepV E z val) :
  (es ++ [(v, z, c)]).map (·.1) = (ents.push { key := v, val := val, born := c }).toList.map (·.key) ∧ (es ++ [(v, z, c)]).map (·.2.2) = (ents.push { key := v, val := val, born := c }).toList.map (·.born) ∧
  RepL E ((es ++ [(v, z, c)]).map (·.2.1)) ((ents.push { key := v, val := val, born := c }).toList.map (·.val)) := by
 have hl : es.length = ents.toList.length := by have := congrArg List.length hk; simpa using this
 refine ⟨by simp [hk], by simp [hb], ?_⟩
 simp only [Array.toList_push, List.map_append]
 exact RepL.append hv (by simpa using hl) (by simp [RepL, hz])
theorem ym_mapUpdate (hT : TOk P T) (hH : RepH P E H) (hX : ∀ b, E.X b → b < E.w.heap.size) (hr : RepT E k t a) {o : Oper} {mt : TypeId} {m kx x : Operand} (ho : o.op = .mapUpdate mt m kx x) {H' : Nat → Option Blk} {n' : Nat} (h : mop T t H E.N (.mapUpdate mt m kx x) = some (r, H', n')) : Ym P E a o r H' n' := by
 simp only [mop] at h
 have hm := hr.ev m
 have hk := hr.ev kx
 have hx := hr.ev x
 split at h
 case h_2 => cases h
 case h_1 kk et i v hmk em ek =>
  rw [em] at hm; rw [ek] at hk
  have hk' := RepV.sc_inv hk
  split at h
  case h_2 => cases h
  case h_1 es c hi =>
   obtain ⟨l, hl, ents, hb, h1, h2, h3⟩ := hH.own i _ hi
   simp only [RepV] at hm
   obtain ⟨_, b, hmb, hbl⟩ := hm
   obtain rfl := hbl l hl
   split at h
   case isFalse => cases h
   case isTrue hkk =>
    obtain ⟨kt, d, u1, u2, u3⟩ := mapK_run hT hmk
    split at h
    case h_1 j y bn hfind =>
     cases h
     have hes := ((find_now u3 hkk es ents.toList 0 h1 hfind).2 j y bn rfl).2
     simp only [Nat.sub_zero] at hes
     obtain ⟨e, g1, g2, g3, g4⟩ := ent_at h1 h2 h3 hes
     obtain ⟨q1, q2, q3⟩ := set_keys h1 h2 h3 hes g1 hx (fun e => { e with key := v, val := a.eval x }) rfl
     obtain ⟨p1, p2, p3⟩ := map_env hH hX hl hb q1 q2 q3 (c' := c)
     refine ⟨_, undef, .inr ⟨?_, rfl⟩, p1, p2, p3, rfl, by simp [RepV, RepL, undef]⟩
     unfold execOp; rw [ho]
     simp only [Instr.mapUpdate, Sem.run_bind, run_under u1, Result.andThen_ok, hmb, run_getMap hb, hk', checkKey_run u2 u3 hkk, find_run u2 u3 hkk h1 hfind, Sem.run_pure, Option.map_some, g1, Option.getD_some, keys_stay hkk g2, run_setMap _ hb]
     rfl
    case h_2 hfind =>
     cases h
     obtain ⟨q1, q2, q3⟩ := push_keys (v := v) (c := c) h1 h2 h3 hx
     obtain ⟨p1, p2, p3⟩ := map_env hH hX hl hb q1 q2 q3 (c' := c + 1)
     refine ⟨_, undef, .inr ⟨?_, rfl⟩, p1, p2, p3, rfl, by simp [RepV, RepL, undef]⟩
     unfold execOp; rw [ho]
     simp only [Instr.mapUpdate, Sem.run_bind, run_under u1, Result.andThen_ok, hmb, run_getMap hb, hk', checkKey_run u2 u3 hkk, find_run u2 u3 hkk h1 hfind, Sem.run_pure, Option.map_none, run_setMap _ hb]
     rfl
    case h_3 => cases h
theorem goInt_nat {b : Nat} (h : b < 2 ^ 62) : goInt (b : Int) = .int .i64 b := by
 simp only [goInt]
theorem ym_mapEntry (hT : TOk P T) (hH : RepH P E H) (hX : ∀ b, E.X b → b < E.w.heap.size) (hr : RepT E k t a) {o : Oper} {mt : TypeId} {m kx : Operand} (ho : o.op = .mapEntry mt m kx) {H' : Nat → Option Blk} {n' : Nat} (h : mop T t H E.N (.mapEntry mt m kx) = some (r, H', n')) : Ym P E a o r H' n' := by
 simp only [mop] at h
 have hm := hr.ev m
 have hk := hr.ev kx
 split at h
 case h_2 => cases h
 case h_1 kk et i v hmk em ek =>
  rw [em] at hm; rw [ek] at hk
  have hk' := RepV.sc_inv hk
  split at h
  case h_2 => cases h
  case h_1 es c hi =>
   obtain ⟨l, hl, ents, hb, h1, h2, h3⟩ := hH.own i _ hi
   simp only [RepV] at hm
   obtain ⟨_, b, hmb, hbl⟩ := hm
   obtain rfl := hbl l hl
   split at h
   case isFalse => cases h
   case isTrue hkk =>
    obtain ⟨hkk, hlen, hc62⟩ := hkk
    obtain ⟨kt, d, u1, u2, u3⟩ := mapK_run hT hmk
    split at h
    case h_1 j y bn hfind =>
     split at h
     case isFalse => cases h
     case isTrue hb62 =>
     cases h
     have hes := ((find_now u3 hkk es ents.toList 0 h1 hfind).2 j y bn rfl).2
     simp only [Nat.sub_zero] at hes
     obtain ⟨e, g1, g2, g3, g4⟩ := ent_at h1 h2 h3 hes
     obtain ⟨q1, q2, q3⟩ := set_keys h1 h2 h3 hes g1 g4 (fun e => { e with key := v }) rfl
     have hse : es.set j (v, y, bn) = es := by
      apply List.ext_getElem?
      intro q
      rw [List.getElem?_set]
      by_cases hq : j = q
      ·subst hq
       obtain ⟨g1, g2⟩ := List.getElem?_eq_some_iff.1 hes
       simp [g1, g2]
      ·simp [hq]
     rw [hse] at q1 q2 q3
     obtain ⟨p1, p2, p3⟩ := map_env hH hX hl hb q1 q2 q3 (c' := c)
     refine ⟨_, .tuple #[e.val, .int .i64 bn], .inl ?_, p1, p2, p3, rfl, ?_⟩
     ·unfold execOp; rw [ho]
      simp only [Instr.mapEntry, Sem.run_bind, run_under u1, Result.andThen_ok, hmb, run_getMap hb, hk', checkKey_run u2 u3 hkk, find_run u2 u3 hkk h1 hfind, Sem.run_pure, Option.map_some, g1, Option.getD_some, keys_stay hkk g2, run_setMap _ hb, Array.getElem?_toList, g3, goInt_nat hb62]
      rfl
     ·simp only [RepV]; exact ⟨_, rfl, rfl, by simp only [RepL]; exact ⟨RepV.ext p1 _ _ g4, rep_sc _, trivial⟩⟩
    case h_2 hfind =>
     split at h
     case h_2 => cases h
     case h_1 z hz =>
     cases h
     obtain ⟨zv, hz1, hz2⟩ := zero_run hT hz E
     obtain ⟨q1, q2, q3⟩ := push_keys (v := v) (c := c) h1 h2 h3 hz2
     obtain ⟨p1, p2, p3⟩ := map_env hH hX hl hb q1 q2 q3 (c' := c + 1)
     refine ⟨_, .tuple #[zv, .int .i64 c], .inl ?_, p1, p2, p3, rfl, ?_⟩
     ·unfold execOp; rw [ho]
      simp only [Instr.mapEntry, Sem.run_bind, run_under u1, Result.andThen_ok, hmb, run_getMap hb, hk', checkKey_run u2 u3 hkk, find_run u2 u3 hkk h1 hfind, Sem.run_pure, Option.map_none, hz1, run_setMap _ hb, goInt_nat hc62]
      rfl
     ·simp only [RepV]; exact ⟨_, rfl, rfl, by simp only [RepL]; exact ⟨RepV.ext p1 _ _ hz2, rep_sc _, trivial⟩⟩
    case h_3 => cases h
theorem ym_makeMap (hH : RepH P E H) (hX : ∀ b, E.X b → b < E.w.heap.size) {o : Oper} {mt : TypeId} {x : Option Operand} (ho : o.op = .makeMap mt x) {H' : Nat → Option Blk} {n' : Nat} (h : mop T t H E.N (.makeMap mt x) = some (r, H', n')) : Ym P E a o r H' n' := by
 cases x with
 | some x => simp [mop] at h
 | none =>
  simp only [mop] at h
  cases h
  let F : Env := ⟨E.X, E.N + 1, upd E.m E.N (some ⟨E.w.heap.size, 0, 0⟩), pushW E.w (.map #[] 0)⟩
  have hx : Ext E F := by
   refine ⟨rfl, Nat.le_succ _, rfl, rfl, rfl, by simp [F, pushW], fun b hb _ => push_old hb, fun i l hi hl => ?_, fun i l hl => ?_, fun b r hb => ⟨r, (push_old (lt_of_block hb)).trans hb⟩⟩
   ·simp only [F] at hl; rwa [upd_ne _ _ (by omega)] at hl
   ·simp only [F] at hl
    by_cases e : i = E.N
    ·subst e; rw [upd_same] at hl; cases hl; exact .inl (Nat.le_refl _)
    ·rw [upd_ne _ _ e] at hl; exact .inr ⟨i, l, hl, rfl⟩
  have hlt : ∀ i l, E.m i = some l → i ≠ E.N ∧ l.b ≠ E.w.heap.size := fun i l hl => by have := hH.lt i l hl; exact ⟨by omega, by omega⟩
  refine ⟨F, .map (some E.w.heap.size), .inl ?_, hx, ⟨fun i blk hb => ?_, fun i l hl => ?_, fun i j l l' hl hl' e => ?_, hH.glob.ext hx⟩, fun b hb => Nat.lt_of_lt_of_le (hX b hb) hx.size, rfl, ?_⟩
  ·unfold execOp; rw [ho]
   rfl
  ·by_cases e : i = E.N
   ·subst e
    rw [upd_same] at hb; cases hb
    exact ⟨⟨E.w.heap.size, 0, 0⟩, by simp [F, upd_same], #[], push_new, rfl, rfl, by simp [RepL]⟩
   ·rw [upd_ne _ _ e] at hb
    obtain ⟨l, hl, hr⟩ := hH.own i blk hb
    exact ⟨l, by simp only [F]; rw [upd_ne _ _ e]; exact hl, RepB.ext hx (push_old (hH.lt i l hl).2.1) hr⟩
  ·simp only [F] at hl ⊢
   by_cases e : i = E.N
   ·subst e
    rw [upd_same] at hl; cases hl
    exact ⟨Nat.lt_succ_self _, by simp [pushW], fun h => Nat.lt_irrefl _ (hX _ h), _, upd_same _ _ _⟩
   ·rw [upd_ne _ _ e] at hl
    obtain ⟨h1, h2, h3, h4⟩ := hH.lt i l hl
    exact ⟨Nat.lt_succ_of_lt h1, by simp [pushW]; omega, h3, by rw [upd_ne _ _ e]; exact h4⟩
  ·simp only [F] at hl hl'
   by_cases e1 : i = E.N <;> by_cases e2 : j = E.N
   ·omega
   ·subst e1; rw [upd_same] at hl; cases hl
    rw [upd_ne _ _ e2] at hl'
    exact absurd e.symm (hlt j l' hl').2
   ·subst e2; rw [upd_same] at hl'; cases hl'
    rw [upd_ne _ _ e1] at hl
    exact absurd e (hlt i l hl).2
   ·rw [upd_ne _ _ e1] at hl; rw [upd_ne _ _ e2] at hl'; exact hH.inj i j l l' hl hl' e
  ·simp only [RepV]
   refine ⟨Nat.lt_succ_self _, _, rfl, fun l hl => ?_⟩
   simp only [F] at hl
   rw [upd_same] at hl; cases hl; rfl
theorem findIdx_born (bn : Int) : ∀ (es : List (Value × AV × Nat)) (l : List MapEntry), es.map (·.2.2) = l.map (·.born) → es.findIdx? (fun e => (e.2.2 : Int) == bn) = l.findIdx? (fun e => (e.born : Int) == bn)
 | [], [], _ => rfl
 | [], _ :: _, h => by simp at h
 | _ :: _, [], h => by simp at h
 | e :: es, f :: l, h => by
  simp only [List.map_cons, List.cons.injEq] at h
  rw [List.findIdx?_cons, List.findIdx?_cons, findIdx_born bn es l h.2, h.1]
theorem ym_entryStore (hT : TOk P T) (hH : RepH P E H) (hX : ∀ b, E.X b → b < E.w.heap.size) (hr : RepT E k t a) {o : Oper} {mt : TypeId} {m sx x : Operand} (ho : o.op = .entryStore mt m sx x) {H' : Nat → Option Blk} {n' : Nat} (h : mop T t H E.N (.entryStore mt m sx x) = some (r, H', n')) : Ym P E a o r H' n' := by
 simp only [mop] at h
 have hm := hr.ev m
 have hk := hr.ev sx
 have hx := hr.ev x
 split at h
 case h_2 => cases h
 case h_1 i kk bn em ek =>
  rw [em] at hm; rw [ek] at hk
  have hk' := RepV.sc_inv hk
  split at h
  case h_2 => cases h
  case h_1 es c hi =>
   obtain ⟨l, hl, ents, hb, h1, h2, h3⟩ := hH.own i _ hi
   simp only [RepV] at hm
   obtain ⟨_, b, hmb, hbl⟩ := hm
   obtain rfl := hbl l hl
   split at h
   case h_2 => cases h
   case h_1 j hj =>
    cases h
    have hfi : ents.findIdx? (fun e => (e.born : Int) == bn) = some j := by
     rw [show ents.findIdx? (fun e => (e.born : Int) == bn) = ents.toList.findIdx? (fun e => (e.born : Int) == bn) by obtain ⟨l⟩ := ents; simp]
     rw [← findIdx_born bn es ents.toList h2]; exact hj
    have hjl : j < es.length := by
     obtain ⟨h, _⟩ := List.findIdx?_eq_some_iff_getElem.1 hj
     exact h
    obtain ⟨⟨v, y, b0⟩, hes⟩ : ∃ q, es[j]? = some q := ⟨es[j], by simp [hjl]⟩
    obtain ⟨e, g1, g2, g3, g4⟩ := ent_at h1 h2 h3 hes
    obtain ⟨q1, q2, q3⟩ := set_keys h1 h2 h3 hes g1 hx (fun e => { e with val := a.eval x }) (by rw [← g2])
    have hse : es.modify j (fun e => (e.1, ev t x, e.2.2)) = es.set j (v, ev t x, b0) := by
     apply List.ext_getElem?
     intro q
     rw [List.getElem?_set, List.getElem?_modify]
     by_cases hq : j = q
     ·subst hq
      obtain ⟨g1', g2'⟩ := List.getElem?_eq_some_iff.1 hes
      simp [g1', g2']
     ·simp [hq]
    rw [← hse] at q1 q2 q3
    obtain ⟨p1, p2, p3⟩ := map_env hH hX hl hb q1 q2 q3 (c' := c)
    refine ⟨_, undef, .inr ⟨?_, rfl⟩, p1, p2, p3, rfl, by simp [RepV, RepL, undef]⟩
    unfold execOp; rw [ho]
    simp only [Instr.entryStore, Sem.run_bind, Result.andThen_ok, hmb, run_getMap hb, hk', asInt, asIntOf, Sem.run_pure, hfi, run_setMap _ hb]
    rfl
theorem erase_keys {es : List (Value × AV × Nat)} {ents : Array MapEntry} (j : Nat) (hk : es.map (·.1) = ents.toList.map (·.key)) (hb : es.map (·.2.2) = ents.toList.map (·.born)) (hv : RepL E (es.map (·.2.1)) (ents.toList.map (·.val))) :
  (es.eraseIdx j).map (·.1) = (ents.eraseIdxIfInBounds j).toList.map (·.key) ∧ (es.eraseIdx j).map (·.2.2) = (ents.eraseIdxIfInBounds j).toList.map (·.born) ∧ RepL E ((es.eraseIdx j).map (·.2.1)) ((ents.eraseIdxIfInBounds j).toList.map (·.val)) := by
 have he : ∀ {α β : Type} (f : α → β) (l : List α), (l.eraseIdx j).map f = (l.map f).eraseIdx j := fun f l => by
  induction l generalizing j with
  | nil => rfl
  | cons x l ih => cases j <;> simp [*]
 rw [Array.toList_eraseIdxIfInBounds]
 refine ⟨by rw [he, he, hk], by rw [he, he, hb], ?_⟩
 rw [he, he]
 rw [RepL.iff] at hv ⊢
 have hl : es.length = ents.toList.length := by have := congrArg List.length hk; simpa using this
 refine ⟨by simp [List.length_eraseIdx, ← hl], fun q x hq => ?_⟩
 rw [List.getElem?_eraseIdx] at hq ⊢
 split at hq
 ·rename_i h; rw [if_pos h]; exact hv.2 q x hq
 ·rename_i h; rw [if_neg h]; exact hv.2 _ x hq
theorem yc_delete (hT : TOk P T) (hH : RepH P E H) (hX : ∀ b, E.X b → b < E.w.heap.size) (hr : RepT E k t a) {o : Oper} {args : Array Operand} {ats : Array TypeId} (ho : o.op = .call { callee := .builtin .delete, args, argTypes := ats })
  {H' : Nat → Option Blk} {n' : Nat} (h : mop T t H E.N (.call { callee := .builtin .delete, args, argTypes := ats }) = some (r, H', n')) : Ym P E a o r H' n' := by
 simp only [mop] at h
 split at h
 case h_2 => cases h
 case h_1 i v mt rest e1 e2 =>
  obtain ⟨p, q, rfl, ex, ey⟩ := two_args e1
  obtain rfl : ats = (mt :: rest).toArray := by
   obtain ⟨l⟩ := ats; simp at e2; rw [e2]
  have hm := hr.ev p
  have hk := hr.ev q
  rw [ex] at hm; rw [ey] at hk
  have hk' := RepV.sc_inv hk
  split at h
  case h_2 => cases h
  case h_1 kk et es c hmk hi =>
   obtain ⟨l, hl, ents, hb, h1, h2, h3⟩ := hH.own i _ hi
   simp only [RepV] at hm
   obtain ⟨_, b, hmb, hbl⟩ := hm
   obtain rfl := hbl l hl
   split at h
   case isFalse => cases h
   case isTrue hkk =>
    obtain ⟨kt, d, u1, u2, u3⟩ := mapK_run hT hmk
    split at h
    case h_1 j y bn hfind =>
     cases h
     obtain ⟨q1, q2, q3⟩ := erase_keys j h1 h2 h3
     obtain ⟨p1, p2, p3⟩ := map_env hH hX hl hb q1 q2 q3 (c' := c)
     refine ⟨_, undef, .inl ?_, p1, p2, p3, rfl, by simp [RepV, RepL, undef]⟩
     unfold execOp; rw [ho]
     simp [resolve, invoke, builtin, Builtin.delete_, Sem.run_bind, run_under u1, Result.andThen_ok, hmb, run_getMap hb, hk', checkKey_run u2 u3 hkk, find_run u2 u3 hkk h1 hfind, run_setMap _ hb, Env.pobj, undef]
    case h_2 hfind =>
     cases h
     obtain ⟨p1, p2, p3⟩ := map_env hH hX hl hb h1 h2 h3 (c' := c)
     refine ⟨_, undef, .inl ?_, p1, p2, p3, rfl, by simp [RepV, RepL, undef]⟩
     unfold execOp; rw [ho]
     simp [resolve, invoke, builtin, Builtin.delete_, Sem.run_bind, run_under u1, Result.andThen_ok, hmb, run_getMap hb, hk', checkKey_run u2 u3 hkk, find_run u2 u3 hkk h1 hfind, run_setMap _ hb, Env.pobj, undef]
    case h_3 => cases h
theorem ym_range (hT : TOk P T) (hH : RepH P E H) (hX : ∀ b, E.X b → b < E.w.heap.size) (hr : RepT E k t a) {o : Oper} {ty : TypeId} {x : Operand} (ho : o.op = .range ty x) {H' : Nat → Option Blk} {n' : Nat} (h : mop T t H E.N (.range ty x) = some (r, H', n')) : Ym P E a o r H' n' := by
 simp only [mop] at h
 have hx0 := hr.ev x
 split at h
 case h_2 => cases h
 case h_1 i s hi es =>
  rw [es] at hx0
  have ex := RepV.sc_inv hx0
  split at h
  case h_2 => cases h
  case h_1 hk =>
  cases h
  have hu := (hT.row hi).str hk
  let F : Env := ⟨E.X, E.N + 1, upd E.m E.N (some ⟨E.w.heap.size, 0, 0⟩), pushW E.w (.stringIter s 0)⟩
  have hx : Ext E F := by
   refine ⟨rfl, Nat.le_succ _, rfl, rfl, rfl, by simp [F, pushW], fun b hb _ => push_old hb, fun i l hi hl => ?_, fun i l hl => ?_, fun b r hb => ⟨r, (push_old (lt_of_block hb)).trans hb⟩⟩
   ·simp only [F] at hl; rwa [upd_ne _ _ (by omega)] at hl
   ·simp only [F] at hl
    by_cases e : i = E.N
    ·subst e; rw [upd_same] at hl; cases hl; exact .inl (Nat.le_refl _)
    ·rw [upd_ne _ _ e] at hl; exact .inr ⟨i, l, hl, rfl⟩
  have hlt : ∀ i l, E.m i = some l → i ≠ E.N ∧ l.b ≠ E.w.heap.size := fun i l hl => by have := hH.lt i l hl; exact ⟨by omega, by omega⟩
  refine ⟨F, .pointer (some ⟨E.w.heap.size, 0, none⟩), .inl ?_, hx, ⟨fun i blk hb => ?_, fun i l hl => ?_, fun i j l l' hl hl' e => ?_, hH.glob.ext hx⟩, fun b hb => Nat.lt_of_lt_of_le (hX b hb) hx.size, rfl, ?_⟩
  ·unfold execOp; rw [ho]
   simp only [ex, Instr.range, Sem.run_bind, run_under hu, Result.andThen_ok]
   rfl
  ·by_cases e : i = E.N
   ·subst e
    rw [upd_same] at hb; cases hb
    exact ⟨⟨E.w.heap.size, 0, 0⟩, by simp [F, upd_same], push_new⟩
   ·rw [upd_ne _ _ e] at hb
    obtain ⟨l, hl, hr⟩ := hH.own i blk hb
    exact ⟨l, by simp only [F]; rw [upd_ne _ _ e]; exact hl, RepB.ext hx (push_old (hH.lt i l hl).2.1) hr⟩
  ·simp only [F] at hl ⊢
   by_cases e : i = E.N
   ·subst e
    rw [upd_same] at hl; cases hl
    exact ⟨Nat.lt_succ_self _, by simp [pushW], fun h => Nat.lt_irrefl _ (hX _ h), _, upd_same _ _ _⟩
   ·rw [upd_ne _ _ e] at hl
    obtain ⟨h1, h2, h3, h4⟩ := hH.lt i l hl
    exact ⟨Nat.lt_succ_of_lt h1, by simp [pushW]; omega, h3, by rw [upd_ne _ _ e]; exact h4⟩
  ·simp only [F] at hl hl'
   by_cases e1 : i = E.N <;> by_cases e2 : j = E.N
   ·omega
   ·subst e1; rw [upd_same] at hl; cases hl
    rw [upd_ne _ _ e2] at hl'
    exact absurd e.symm (hlt j l' hl').2
   ·subst e2; rw [upd_same] at hl'; cases hl'
    rw [upd_ne _ _ e1] at hl
    exact absurd e (hlt i l hl).2
   ·rw [upd_ne _ _ e1] at hl; rw [upd_ne _ _ e2] at hl'; exact hH.inj i j l l' hl hl' e
  ·simp only [RepV]
   refine ⟨Nat.lt_succ_self _, _, rfl, fun l hl => ?_⟩
   simp only [F] at hl
   rw [upd_same] at hl; cases hl; rfl
theorem ym_next (hH : RepH P E H) (hX : ∀ b, E.X b → b < E.w.heap.size) (hr : RepT E k t a) {o : Oper} {x : Operand} {q : Bool} (ho : o.op = .next x q) {H' : Nat → Option Blk} {n' : Nat} (h : mop T t H E.N (.next x q) = some (r, H', n')) : Ym P E a o r H' n' := by
 cases q with
 | false => simp [mop] at h
 | true =>
 simp only [mop] at h
 have hx0 := hr.ev x
 split at h
 case h_2 => cases h
 case h_1 i ei =>
  rw [ei] at hx0
  simp only [RepV] at hx0
  obtain ⟨hlt, b, eb, hb⟩ := hx0
  split at h
  case h_2 => cases h
  case h_1 s p hi =>
   obtain ⟨l, hl, hblk⟩ := hH.own i _ hi
   have hb' := hb l hl
   subst hb'
   have hblk' : E.w.heap[l.b]? = some (.stringIter s p) := hblk
   split at h
   ·rename_i hp
    cases h
    have hc : ∀ c1 t f, Obj.stringIter s p ≠ .cells c1 t f := fun c1 t f h => by cases h
    refine ⟨E.pobj l.b (.stringIter s (p + (Utf8.decode s p).2)), .tuple #[.bool true, .int .i64 p, .int .i32 (Utf8.decode s p).1], .inl ?_, (Ext.refl E).pobj (.inl ⟨i, l, hl, rfl⟩) (fun r h => by rw [hblk'] at h; cases h),
     hH.pobjAt hblk' hc hl ?_, fun b' hb' => by simpa [Env.pobj] using hX b' hb', rfl, ?_⟩
    ·unfold execOp; rw [ho]
     simp only [eb, Instr.next, getObj, setObj, Sem.run_bind, Sem.run, hblk', Result.andThen, hp, if_true]
     simp [goInt, Env.pobj]
    ·show (E.pobj l.b _).w.heap[l.b]? = _
     simp [Env.pobj, lt_of_block hblk']
    ·simp only [RepV]; exact ⟨_, rfl, rfl, by simp [RepL, RepV]⟩
   ·rename_i hp
    cases h
    refine ⟨E, .tuple #[.bool false], .inl ?_, Ext.refl E, hH, hX, rfl, ?_⟩
    ·unfold execOp; rw [ho]
     simp [eb, Instr.next, getObj, Sem.run, hblk', hp]
    ·simp only [RepV]; exact ⟨_, rfl, rfl, by simp [RepL, RepV]⟩
end
section
variable {P : Program} {T : Tab} {E : Env} {H : Nat → Option Blk} {k : Nat} {t : Nat → AV} {a : Act} {r : AV}
def Ya (P : Program) (E : Env) (u v : Value) (st xt ty : Nat) (r : AV) (H' : Nat → Option Blk) (n' : Nat) : Prop :=
 ∃ E' z, (Builtin.append_ #[st, xt] ty #[u, v]).run P E.w = .ok z E'.w ∧ Ext E E' ∧ RepH P E' H' ∧ (∀ b, E'.X b → b < E'.w.heap.size) ∧ E'.N = n' ∧ RepV E' r z
theorem ya_grow (hT : TOk P T) (hH : RepH P E H) (hX : ∀ b, E.X b → b < E.w.heap.size) {e st xt : Nat} {ie : TI} (he : T e = some ie) (hst : P.underlying st = some (.slice e)) (hxt : ∃ d, P.underlying xt = some d ∧ (d matches .int _) = false)
  {x y : AV} {u v : Value} (hx : RepV E x u) (hy : RepV E y v) {kk m : Nat} {old new : List AV} (hox : elemsOf H ie.size x = some (kk, old)) (hoy : elemsOf H ie.size y = some (m, new))
  (hb : (kk + m) * ie.bytes ≤ roomMax) (hm : kk + m ≤ roomMax) (hby : ie.bytes ≤ 2 ^ 20) (hz0 : 0 < ie.size) (hzl : ie.zero.length = ie.size) {base : Option Addr} {sc : Nat} (hu : u = .slice base kk sc) (hcap : sc < kk + m) (ty : TypeId) :
  Ya P E u v st xt ty (.osl E.N 0 (kk + m) none) (upd H E.N (some (.cells (old ++ new) e))) (E.N + 1) := by
 obtain ⟨newCap, cells, h1, h2, h3, h4⟩ := run_append_grow hT hH hX he hst hxt hx hy hox hoy hb hm hby hz0 hzl hu hcap ty
 obtain ⟨hx1, hH1⟩ := drawn_rep hH (E.w.drawn + 1)
 obtain ⟨info, z, g1, g2, _⟩ := (hT.row he).info
 obtain ⟨q1, q2⟩ := newEnv_rep hH1 hX g1 h4
 refine ⟨newEnv { E with w := { E.w with drawn := E.w.drawn + 1 } } cells e info.size, _, h1, hx1.trans (newEnv_ext hH1), q1, q2, rfl, ?_⟩
 simp only [RepV]
 refine ⟨Nat.lt_succ_self _, _, newCap, rfl, h2, (fun q hq => by cases hq), fun l hl => ?_⟩
 simp only [newEnv] at hl
 rw [upd_same] at hl; cases hl
 exact ⟨rfl, fun _ => by simp only [Nat.zero_add]; rw [h3, g2]⟩
theorem ya_forget {u v : Value} {st xt ty : Nat} {i n kk : Nat} {blk : Blk} (hN : i < E.N) (h : Ya P E u v st xt ty (.osl E.N 0 n none) (upd H E.N (some blk)) (E.N + 1)) : Ya P E u v st xt ty (.osl E.N 0 n none) (upd (upd H i none) E.N (some blk)) (E.N + 1) := by
 obtain ⟨E', z, h1, h2, h3, h4, h5, h6⟩ := h
 obtain ⟨q1, q2⟩ := forget_rep h3 h4 i
 have e : upd (upd H E.N (some blk)) i none = upd (upd H i none) E.N (some blk) := by
  funext j
  by_cases e1 : j = i <;> by_cases e2 : j = E.N
  ·omega
  ·subst e1; rw [upd_same, upd_ne _ _ e2, upd_same]
  ·subst e2; rw [upd_ne _ _ e1, upd_same, upd_same]
  ·rw [upd_ne _ _ e1, upd_ne _ _ e2, upd_ne _ _ e2, upd_ne _ _ e1]
 rw [e] at q2
 exact ⟨{ E' with m := upd E'.m i none }, z, h1, h2.trans q1, q2, h4, h5, RepV.ext q1 _ _ h6⟩
theorem ya_append (hT : TOk P T) (hH : RepH P E H) (hX : ∀ b, E.X b → b < E.w.heap.size) {st xt : Nat} {x y : AV} {u v : Value} (hx : RepV E x u) (hy : RepV E y v) (hxt : ∃ d, P.underlying xt = some d ∧ (d matches .int _) = false) (ty : Nat)
  {H' : Nat → Option Blk} {n' : Nat} (h : appendAV T H E.N st x y = some (r, H', n')) : Ya P E u v st xt ty r H' n' := by
 unfold appendAV at h
 split at h
 case h_2 => cases h
 case h_1 i hi =>
  split at h
  case h_2 => cases h
  case h_1 e hk =>
   split at h
   case h_2 => cases h
   case h_1 ie he =>
    split at h
    case h_2 => cases h
    case h_1 kk old m new hox hoy =>
     split at h
     case isFalse => cases h
     case isTrue hc =>
      obtain ⟨hb, hm, hby, hz0, hzl, hall⟩ := hc
      have hst := (hT.row hi).slice hk
      obtain ⟨d, hd1, hd2⟩ := hxt
      obtain ⟨info, z, g1, g2, g3, g4, g5⟩ := (hT.row he).info
      have fit : ∀ (base : Option Addr) (sc : Nat) (w' : World), u = .slice base kk sc → kk + m ≤ sc → (∀ vs : Array Value, (Builtin.firstCells ie.size m v).run P E.w = .ok vs E.w → vs.size = m * ie.size → RepL E new vs.toList → ∀ ad, base = some ad → (storeCells (ad.add (kk * ie.size)) vs.toList).run P E.w = .ok () w') → (base = none → w' = E.w) →
        (Builtin.append_ #[st, xt] ty #[u, v]).run P E.w = .ok (.slice base (kk + m) sc) w' := by
       intro base sc w' hu hcap hs hn
       obtain ⟨b1, b2, b3⟩ := run_elems (P := P) hH hy hoy
       obtain ⟨vn, d1, d2, d3⟩ := b3 m (Nat.le_refl _)
       rw [← b2, List.take_length] at d3
       subst hu
       unfold Builtin.append_
       cases d with
       | int k => simp at hd2
       | _ =>
        simp only [List.getElem?_toArray, List.getElem?_cons_zero, List.getElem?_cons_succ, Sem.run_bind, run_under hst, run_under hd1, run_size g1, g2, Result.andThen_ok, Sem.run_pure, Bool.false_eq_true, if_false, Bool.not_false, if_true]
        simp only [b1, Sem.run_bind, Result.andThen_ok]
        rw [if_pos hcap]
        simp only [d1, Sem.run_bind, Result.andThen_ok]
        cases base with
        | none => rw [hn rfl]; rfl
        | some ad => simp only [Sem.run_bind]; rw [hs vn d1 d2 d3 ad rfl]; rfl
      have hxt' : ∃ d, P.underlying xt = some d ∧ (d matches .int _) = false := ⟨d, hd1, hd2⟩
      have hx0 := hx
      have same : ∀ (base : Option Addr) (sc : Nat), u = .slice base kk sc → kk ≤ sc → m = 0 → Ya P E u v st xt ty x H E.N := by
       intro base sc hu hcap hm0
       subst hm0
       refine ⟨E, u, ?_, Ext.refl _, hH, hX, rfl, hx⟩
       have := fit base sc E.w hu (by omega) (fun vs _ hvs _ ad _ => by
        have : vs = #[] := Array.eq_empty_of_size_eq_zero (by simpa using hvs)
        subst this; rfl) (fun _ => rfl)
       rw [this, hu]; rfl
      split at h
      case h_1 i' o' n c =>
       split at h
       case h_2 => cases h
       case h_1 cs bty hi' =>
        split at h
        case isFalse => cases h
        case isTrue hty =>
         have hty := hty.symm
         subst hty
         have hox' := hox
         simp only [elemsOf, hi'] at hox'
         split at hox'
         case isFalse => cases hox'
         case isTrue hle =>
         simp only [Option.some.injEq, Prod.mk.injEq] at hox'
         obtain ⟨rfl, hold⟩ := hox'
         obtain ⟨l, hl, cells, fz, info', q1, q2, q3, q4, q5, q6⟩ := hH.own i' _ hi'
         rw [g1] at q5; cases q5
         simp only [RepV] at hx
         obtain ⟨hN, b, cap, ex, hcap, hcc, hmm⟩ := hx
         obtain ⟨rfl, hroom⟩ := hmm l hl
         have hq2 := q2.length
         simp only [Array.length_toList] at hq2
         have inpl : n + m ≤ cap → o' + (n + m) * ie.size ≤ cells.size → ∀ cs' : List AV, (∀ vs : Array Value, vs.size = m * ie.size → RepL E new vs.toList → RepL E cs' (cells.toList.take (o' + n * ie.size) ++ vs.toList ++ cells.toList.drop (o' + n * ie.size + vs.toList.length))) →
           ∃ w', (Builtin.append_ #[st, xt] ty #[u, v]).run P E.w = .ok (.slice (some ⟨l.b, o', none⟩) (n + m) cap) w' ∧ Ext E { E with w := w' } ∧ RepH P { E with w := w' } (upd H i' (some (.cells cs' e))) ∧ (∀ b, E.X b → b < w'.heap.size) := by
          intro hfit hroom' cs' hcs'
          obtain ⟨b1, b2, b3⟩ := run_elems (P := P) hH hy hoy
          obtain ⟨vn, d1, d2, d3⟩ := b3 m (Nat.le_refl _)
          rw [← b2, List.take_length] at d3
          have hvl : vn.toList.length = m * ie.size := by rw [Array.length_toList, d2]
          have hone := oneCell_of d3 hall
          rw [b2, ← hvl, List.take_length] at hone
          rw [Nat.add_mul] at hroom'
          obtain ⟨w', cells', h1, h2, h3⟩ := run_storeCells (P := P) vn.toList (i := 0) (o := o' + n * ie.size) q1 (by omega) q4 hone
          obtain ⟨r1, r2, r3⟩ := wrote_env (cs' := cs') hH hX hi' hl h2 (by rw [← Array.length_toList, h3]; simp; omega) (by rw [h3]; exact hcs' vn d2 d3)
          refine ⟨w', fit _ _ w' ex hfit (fun vs hvs _ _ ad had => ?_) (fun e => by cases e), r1, r2, r3⟩
          cases had
          rw [d1] at hvs; cases hvs
          rw [addr_add]; exact h1
         split at h
         case isTrue hfit =>
          cases h
          obtain ⟨hf1, hf2⟩ := hfit
          have hcapfit : n + m ≤ cap := by
           cases c with
           | some c => simp [fitsC] at hf1; have := hcc c rfl; omega
           | none =>
            have h3 := hroom rfl
            have : l.z = ie.size := by omega
            rw [this] at h3
            have h5 : (n + m) * ie.size ≤ cap * ie.size := by omega
            exact Nat.le_of_mul_le_mul_right h5 hz0
          obtain ⟨w', a1, a2, a3, a4⟩ := inpl hcapfit (by omega) (splice cs (o' + n * ie.size) new) (fun vs hvs hr => by
           unfold splice
           have hnl : new.length = vs.toList.length := by
            obtain ⟨_, b2, _⟩ := run_elems (P := P) hH hy hoy
            rw [b2, Array.length_toList, hvs]
           rw [Nat.add_mul] at hf2
           have hvs2 : vs.toList.length = m * ie.size := by rw [Array.length_toList, hvs]
           rw [hnl]
           exact RepL.append (RepL.append (q2.take _) (by simp; omega) hr) (by simp; omega) (q2.drop _))
          refine ⟨{ E with w := w' }, _, a1, a2, a3, a4, rfl, ?_⟩
          simp only [RepV]
          exact ⟨hN, l.b, cap, rfl, hcapfit, hcc, fun l' hl' => by
           have : l' = l := by have := hl'.symm.trans hl; exact Option.some.inj this
           subst this; exact ⟨rfl, hroom⟩⟩
         case isFalse hfit =>
          split at h
          case h_1 c =>
           split at h
           case isTrue => cases h
           case isFalse hcm =>
            cases h
            have := hcc c rfl
            exact ya_grow hT hH hX he hst hxt' hx0 hy hox hoy hb hm hby hz0 hzl ex (by omega) ty
          case h_2 =>
           split at h
           case isFalse => cases h
           case isTrue ho =>
            cases h
            subst ho
            rcases Nat.lt_or_ge cap (n + m) with hlt | hge
            ·exact ya_forget (kk := n) hN (ya_grow hT hH hX he hst hxt' hx0 hy hox hoy hb hm hby hz0 hzl ex hlt ty)
            ·have h3 := hroom rfl
             have hzz : l.z = ie.size := by omega
             rw [hzz] at h3
             have h5 : (n + m) * ie.size ≤ cap * ie.size := Nat.mul_le_mul_right _ hge
             have h6 : n * ie.size ≤ (n + m) * ie.size := Nat.mul_le_mul_right _ (by omega)
             obtain ⟨w', a1, a2, a3, a4⟩ := inpl hge (by omega) (old ++ new) (fun vs hvs hr => by
              refine RepL.more ?_
              have hol : old.length = 0 + n * ie.size := by rw [← hold]; simp; omega
              refine RepL.append ?_ (by rw [hol]; simp; omega) hr
              rw [← hold]
              have := (q2.drop 0).take (n * ie.size)
              simpa using this)
             obtain ⟨r1, r2⟩ := rename_rep (i := i') (blk := .cells (old ++ new) e) (l := l) a3 a4 (upd_same _ _ _) hl
             refine ⟨_, _, a1, a2.trans r1, ?_, a4, rfl, ?_⟩
             ·have e2 : upd (upd (upd H i' (some (Blk.cells (old ++ new) e))) i' none) E.N (some (Blk.cells (old ++ new) e)) = upd (upd H i' none) E.N (some (Blk.cells (old ++ new) e)) := by
               funext j
               simp only [upd]
               split
               ·rfl
               ·split
                ·rfl
                ·rfl
              rw [← e2]; exact r2
             ·simp only [RepV]
              refine ⟨Nat.lt_succ_self _, l.b, cap, rfl, hge, (fun q hq => by cases hq), fun l' hl' => ?_⟩
              rw [upd_same] at hl'
              cases hl'
              exact ⟨rfl, fun _ => by rw [hzz]; exact h3⟩
      case h_2 cs n =>
       obtain ⟨ad, cap, ex, hcap, hfull, _⟩ := ssl_shape hx
       have hkn : kk = n := by
        simp only [elemsOf] at hox
        split at hox <;> simp at hox
        exact hox.1.symm
       subst hkn
       have := hfull rfl
       split at h
       case isTrue hm0 => cases h; exact same _ _ ex hcap hm0
       case isFalse hm0 => cases h; exact ya_grow hT hH hX he hst hxt' hx0 hy hox hoy hb hm hby hz0 hzl ex (by omega) ty
      case h_3 =>
       simp only [RepV] at hx
       obtain ⟨ad, cap, ex, hfull⟩ := hx
       have hkn : kk = 0 ∧ old = [] := by
        simp only [elemsOf] at hox
        simp at hox
        exact ⟨hox.1.symm, hox.2⟩
       obtain ⟨rfl, rfl⟩ := hkn
       have := hfull trivial
       split at h
       case isTrue hm0 => cases h; exact same _ _ ex (by omega) hm0
       case isFalse hm0 => cases h; simpa using ya_grow hT hH hX he hst hxt' hx0 hy hox hoy hb hm hby hz0 hzl ex (by omega) ty
      case h_4 =>
       have ex := RepV.sc_inv hx
       have hkn : kk = 0 ∧ old = [] := by
        simp only [elemsOf] at hox
        simp at hox
        exact ⟨hox.1.symm, hox.2⟩
       obtain ⟨rfl, rfl⟩ := hkn
       split at h
       case isTrue hm0 => cases h; exact same _ _ ex (by omega) hm0
       case isFalse hm0 => cases h; simpa using ya_grow hT hH hX he hst hxt' hx0 hy hox hoy hb hm hby hz0 hzl ex (by omega) ty
      case h_5 => cases h
theorem yc_append (hT : TOk P T) (hH : RepH P E H) (hX : ∀ b, E.X b → b < E.w.heap.size) (hr : RepT E k t a) {o : Oper} {args : Array Operand} {ats : Array TypeId} (ho : o.op = .call { callee := .builtin .append, args, argTypes := ats })
  {H' : Nat → Option Blk} {n' : Nat} (h : mop T t H E.N (.call { callee := .builtin .append, args, argTypes := ats }) = some (r, H', n')) : Ym P E a o r H' n' := by
 simp only [mop] at h
 split at h
 case h_2 => cases h
 case h_1 x y st yt e1 e2 =>
  obtain ⟨p, q, rfl, ex, ey⟩ := two_args e1
  obtain rfl : ats = #[st, yt] := by
   obtain ⟨l⟩ := ats; simp at e2; rw [e2]
  have hx := hr.ev p
  have hy := hr.ev q
  rw [ex] at hx; rw [ey] at hy
  split at h
  case h_2 => cases h
  case h_1 iy hiy =>
   have fin : (∃ d, P.underlying yt = some d ∧ (d matches .int _) = false) → appendAV T H E.N st x y = some (r, H', n') → Ym P E a o r H' n' := by
    intro hxt h
    obtain ⟨E', z, h1, h2, h3, h4, h5, h6⟩ := ya_append hT hH hX hx hy hxt o.type h
    refine ⟨E', z, .inl ?_, h2, h3, h4, h5, h6⟩
    unfold execOp; rw [ho]
    simp [resolve, invoke, builtin, h1]
   split at h
   case h_1 e hk => exact fin ⟨_, (hT.row hiy).slice hk, rfl⟩ h
   case h_2 hk => exact fin ⟨_, (hT.row hiy).str hk, rfl⟩ h
   case h_3 => cases h
theorem vop_sound (hT : TOk P T) (hH : RepH P E H) (hr : RepT E k t a) {o : Oper} (h : vop T t H o.op = some r) : Yv P E a o r := by
 generalize hop : o.op = op at h
 cases op with
 | move x => simp only [vop] at h; cases h; exact yv_move hr (.inl hop)
 | assign x => simp only [vop] at h; cases h; exact yv_move hr (.inr hop)
 | pick c x y =>
  simp only [vop] at h
  split at h
  ·rename_i b hc; cases h; exact yv_pick hr hop hc
  ·cases h
 | unOp op ty x => exact yv_un hr hop (by simpa only [vop] using h)
 | binOp op ty x y ty' => exact yv_bin hT hr hop (by simpa only [vop] using h)
 | convert src dst x => exact yv_conv hT hr hop (by simpa only [vop] using h)
 | nilCheck x => exact yv_nil hr hop h
 | fieldAddr s x f => exact yv_fieldAddr hT hr hop h
 | field s x f => exact yv_field hT hr hop h
 | indexAddr s x y => exact yv_indexAddr hT hr hop h
 | index s x y => exact yv_index hT hr hop h
 | extract x q => exact yv_extract hr hop h
 | build ty parts => exact yv_build hT hr hop h
 | makeFunc f x y => exact yv_makeFunc hr hop h
 | slice s x lo hi mx => exact yv_slice hT hH hr hop h
 | load ty x => exact yv_load hT hH hr hop h
 | lookup xt x ix ok => exact yv_lookup hT hH hr hop h
 | call c =>
  obtain ⟨callee, args, ats⟩ := c
  cases callee with
  | builtin b =>
   cases b with
   | len => exact yv_len hT hr hop h
   | min => exact yv_min hr hop h
   | max => exact yv_max hr hop h
   | _ => simp [vop] at h
  | _ => simp [vop] at h
 | _ => simp [vop] at h
theorem mop_sound (hT : TOk P T) (hH : RepH P E H) (hX : ∀ b, E.X b → b < E.w.heap.size) (hr : RepT E k t a) {o : Oper} {H' : Nat → Option Blk} {n' : Nat} (h : mop T t H E.N o.op = some (r, H', n')) : Ym P E a o r H' n' := by
 generalize hop : o.op = op at h
 cases op with
 | alloc ty => exact ym_alloc (t := t) hT hH hX hop h
 | box ty x => exact ym_box hT hH hX hr hop h
 | buildSlice ty len parts => exact ym_buildSlice hT hH hX hr hop h
 | makeSlice ty x y => exact ym_makeSlice hT hH hX hr hop h
 | store ty x y => exact ym_store hT hH hX hr hop h
 | makeMap mt x => exact ym_makeMap hH hX hop h
 | range ty x => exact ym_range hT hH hX hr hop h
 | next x q => exact ym_next hH hX hr hop h
 | mapUpdate mt m kx x => exact ym_mapUpdate hT hH hX hr hop h
 | mapEntry mt m kx => exact ym_mapEntry hT hH hX hr hop h
 | entryStore mt m s x => exact ym_entryStore hT hH hX hr hop h
 | convert src dst x => exact ym_convert hT hH hX hr hop h
 | call c =>
  obtain ⟨callee, args, ats⟩ := c
  cases callee with
  | builtin b =>
   cases b with
   | append => exact yc_append hT hH hX hr hop h
   | copy => exact yc_copy hT hH hX hr hop h
   | delete => exact yc_delete hT hH hX hr hop h
   | clear => exact yc_clear hT hH hX hr hop h
   | _ => simp [mop] at h
  | _ => simp [mop] at h
 | _ => simp [mop] at h
end
end Go.Proofs.YtappiofmkoelnaaGreatDoorW.Ah
end
