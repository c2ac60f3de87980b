/-
  Regions whose order is open: what the operations come to in the order of the text, they come to in any order.
-/
import Derived.Test.YtcdafogfmijcpaaAh12
import Derived.Orders
namespace Go.Proofs.YtcdafogfmijcpaaW.Ah
set_option linter.unusedVariables false
set_option linter.unusedSimpArgs false
section
variable {P : Program} {T : Tab}

/-- What is shown of an operation. -/
def DoesOk (P : Program) (o : Oper) (t : Nat → AV) (H : Nat → Option Blk) (n : Nat) (v : AV) (H' : Nat → Option Blk) (n' : Nat) : Prop :=
  ∀ (ro : Option Nat) (E : Env) (k : Nat) (a : Act) (K : Act → World → Prop) (Q : Exit → Act → World → Prop), LoopAt ro E → RepH P E H → Xb E → E.N = n → RepT E k t a →
    (∀ E' z, Ext E E' → RepH P E' H' → Xb E' → E'.N = n' → RepV E' v z → K (a.put o.dst z) E'.w) → o.wpIn (FR ro) 0 P a E.w K Q

/-- And it hangs on its operands alone, and on the blocks that it looks at. -/
def DoesL (P : Program) (o : Oper) (t : Nat → AV) (H : Nat → Option Blk) (n : Nat) (v : AV) (H' : Nat → Option Blk) (n' : Nat) : Cls → Prop
  | .rd R => H' = H ∧ n' = n ∧ ∀ t' H2 n2, (∀ x ∈ o.op.operands, ev t' x = ev t x) → (∀ j ∈ R, H2 j = H j) → DoesOk P o t' H2 n2 v H2 n2
  | .mem S b => (∀ t', (∀ x ∈ o.op.operands, ev t' x = ev t x) → DoesOk P o t' H n v H' n') ∧ ∀ j, j < b → j ∉ S → H' j = H j

theorem DoesL.ok {o : Oper} {t : Nat → AV} {H : Nat → Option Blk} {n : Nat} {v : AV} {H' : Nat → Option Blk} {n' : Nat} : ∀ {c : Cls}, DoesL P o t H n v H' n' c → DoesOk P o t H n v H' n'
  | .rd R, h => by obtain ⟨rfl, rfl, h⟩ := h; exact h t _ _ (fun _ _ => rfl) (fun _ _ => rfl)
  | .mem S b, h => h.1 t fun _ _ => rfl

theorem DoesL.move {o : Oper} {t t' : Nat → AV} {H : Nat → Option Blk} {n : Nat} {v : AV} {H' : Nat → Option Blk} {n' : Nat} (ht : ∀ x ∈ o.op.operands, ev t' x = ev t x) : ∀ {c : Cls}, DoesL P o t H n v H' n' c → DoesL P o t' H n v H' n' c
  | .rd R, h => ⟨h.1, h.2.1, fun t2 H2 n2 h2 hR => h.2.2 t2 H2 n2 (fun x hx => (h2 x hx).trans (ht x hx)) hR⟩
  | .mem S b, h => ⟨fun t2 h2 => h.1 t2 fun x hx => (h2 x hx).trans (ht x hx), h.2⟩

/-- The block that an operation makes anew: its value, by the name; its cells; its type. -/
def newOf (T : Tab) (t : Nat → AV) : Op → Option ((Nat → AV) × List AV × Nat)
  | .alloc ty =>
    match T ty with
    | some i => some (fun n => .own n 0, i.zero.map .sc, ty)
    | none => none
  | .buildSlice ty len parts =>
    match T ty with
    | some i =>
      match i.k with
      | .slice e =>
        match T e with
        | some ie =>
          if len * ie.size ≤ 2 ^ 24 ∧ 0 < ie.size ∧ ie.zero.length = ie.size then
            match fillAV (fun j => some (j * ie.size, ie.size)) ((List.replicate len ie.zero).flatten.map .sc) (parts.toList.map fun p => (p.1, ev t p.2)) with
            | some cs => some (fun n => .osl n 0 len (some len), cs, e)
            | none => none
          else none
        | none => none
      | _ => none
    | none => none
  | .makeSlice ty l c =>
    match T ty with
    | some i =>
      match i.k, ev t l, ev t c with
      | .slice e, .sc (.int .i64 l), .sc (.int .i64 c) =>
        match T e with
        | some ie =>
          if 0 ≤ l ∧ l ≤ c ∧ c * ie.bytes ≤ roomMax ∧ c ≤ roomMax ∧ 0 < ie.size ∧ ie.zero.length = ie.size then
            some (fun n => .osl n 0 l.toNat (some c.toNat), (List.replicate c.toNat ie.zero).flatten.map .sc, e)
          else none
        | none => none
      | _, _, _ => none
    | none => none
  | _ => none

theorem newOf_mop {t : Nat → AV} {H H' : Nat → Option Blk} {n n' : Nat} {v : AV} : ∀ {op : Op}, lateOp op = true → mop T t H n op = some (v, H', n') → ∃ f cs ty, newOf T t op = some (f, cs, ty) ∧ v = f n ∧ H' = upd H n (some (.cells cs ty)) ∧ n' = n + 1
  | .alloc ty, _, h => by
    simp only [mop] at h
    split at h
    · rename_i i hi; cases h; exact ⟨fun n => .own n 0, _, _, by simp only [newOf, hi], rfl, rfl, rfl⟩
    · cases h
  | .buildSlice ty len parts, _, h => by
    simp only [mop] at h
    split at h
    case h_2 => cases h
    case h_1 i hi =>
      split at h
      case h_2 => cases h
      case h_1 e hk =>
        split at h
        case h_2 => cases h
        case h_1 ie he =>
          split at h
          case isFalse => cases h
          case isTrue hc =>
            split at h
            case h_2 => cases h
            case h_1 cs hf =>
              cases h
              refine ⟨fun n => .osl n 0 len (some len), cs, e, ?_, rfl, rfl, rfl⟩
              simp only [newOf, hi, hk, he, hf]
              rw [if_pos hc]

  | .makeSlice ty l c, _, h => by
    simp only [mop] at h
    split at h
    case h_2 => cases h
    case h_1 i hi =>
      split at h
      case h_2 => cases h
      case h_1 e l' c' hk e1 e2 =>
        split at h
        case h_2 => cases h
        case h_1 ie he =>
          split at h
          case isFalse => cases h
          case isTrue hc =>
            cases h
            refine ⟨fun n => .osl n 0 l'.toNat (some c'.toNat), _, e, ?_, rfl, rfl, rfl⟩
            simp only [newOf, hi, hk, e1, e2, he]
            rw [if_pos hc]

theorem newOf_congr {t t' : Nat → AV} : ∀ {op : Op}, (∀ x ∈ op.operands, ev t' x = ev t x) → newOf T t' op = newOf T t op := by
  intro op h
  cases op with
  | buildSlice ty len ps =>
    simp only [newOf]
    have : (ps.toList.map fun p => (p.1, ev t' p.2)) = (ps.toList.map fun p => (p.1, ev t p.2)) := List.map_congr_left fun p hp => by
      rw [h p.2 (by simp only [Op.operands, List.mem_toArray, List.mem_map]; exact ⟨p, hp, rfl⟩)]
    rw [this]
  | makeSlice ty l c =>
    have h1 := h l (by simp [Op.operands])
    have h2 := h c (by simp [Op.operands])
    simp only [newOf, h1, h2]
  | _ => rfl

theorem new_run (hT : TOk P T) {E : Env} {k : Nat} {t : Nat → AV} {a : Act} (hr : RepT E k t a) {o : Oper} {f : Nat → AV} {cs : List AV} {ty : Nat} (h : newOf T t o.op = some (f, cs, ty)) :
    ∃ cells info z, (execOp a.eval o).run P E.w = .ok (.value z) (pushW E.w (.cells cells ty)) ∧ RepL E cs cells.toList ∧ P.info? ty = some info ∧
      ∀ (F : Env) (N : Nat), N < F.N → F.m N = some ⟨E.w.heap.size, cells.size, info.size⟩ → RepV F (f N) z := by
  cases ho : o.op with
  | alloc ty' =>
    rw [ho] at h
    simp only [newOf] at h
    split at h
    case h_2 => cases h
    case h_1 i hi =>
      cases h
      obtain ⟨info, z, h1, h2, h3, h4, h5⟩ := (hT.row hi).info
      refine ⟨z.cells, info, .pointer (some ⟨E.w.heap.size, 0, none⟩), ?_, by rw [h5]; exact rep_scs _, h1, fun F N hN hF => ?_⟩
      · unfold execOp; rw [ho]
        simp [Instr.alloc, run_zero h1 h4, newVar, newRow, pushW]
      · simp only [RepV]
        exact ⟨hN, _, rfl, fun l hl => by rw [hF] at hl; cases hl; rfl⟩
  | buildSlice ty' len parts =>
    rw [ho] at h
    simp only [newOf] at h
    obtain ⟨hpl, hpr⟩ := parts_rep hr parts
    split at h
    case h_2 => cases h
    case h_1 i hi =>
      split at h
      case h_2 => cases h
      case h_1 e hk =>
        split at h
        case h_2 => cases h
        case h_1 ie he =>
          split at h
          case isFalse => cases h
          case isTrue hc =>
            obtain ⟨hsz, hz0, hzl⟩ := hc
            obtain ⟨info, z, g1, g2, g3, g4, g5⟩ := (hT.row he).info
            have hzs : z.cells.size = ie.size := by rw [← hzl, ← g5]; simp
            have hz0' : 0 < z.cells.size := by omega
            split at h
            case h_2 => cases h
            case h_1 cs' hf =>
              cases h
              have hze := zeros_eq z.cells len hz0'
              obtain ⟨out, ho1, ho2, ho3⟩ := run_fill (cells := (Array.range (len * z.cells.size)).map (fun i => z.cells[i % z.cells.size]!)) (vs := (parts.map fun (i, x) => (i, a.eval x)).toList) hpl hpr
                (by rw [hze, g5]; exact rep_scs _) (by rw [← Array.length_toList, hze, g5]; simp) hf
              refine ⟨out, info, .slice (some ⟨E.w.heap.size, 0, none⟩) len len, ?_, ho2, g1, fun F N hN hF => ?_⟩
              · unfold execOp; rw [ho]
                simp only [Instr.buildSlice, Sem.run_bind, run_under ((hT.row hi).slice hk), Result.andThen_ok, run_size g1, g2]
                rw [if_neg (by omega)]
                by_cases hn : len * ie.size = 0
                · rw [if_pos hn]
                  simp only [Sem.run_bind, Sem.run_pure, Result.andThen_ok]
                  rw [hzs, hn] at ho1
                  rw [hn]
                  simp [show Array.range 0 = #[] from rfl] at ho1 ⊢
                  rw [ho1]
                  simp [newRow, pushW]
                · rw [if_neg hn]
                  simp only [Sem.run_bind, Sem.run_pure, Result.andThen_ok, run_zero g1 g4]
                  rw [hzs] at ho1
                  simp at ho1 ⊢
                  rw [hzs, ho1]
                  simp [newRow, pushW]
              · simp only [RepV]
                exact ⟨hN, _, len, rfl, Nat.le_refl _, fun q hq => by simpa using hq, fun l' hl' => by
                  rw [hF] at hl'; cases hl'; exact ⟨rfl, fun hn => by cases hn⟩⟩
  | makeSlice ty' x y =>
    rw [ho] at h
    simp only [newOf] at h
    have h1 := hr.ev x
    have h2 := hr.ev y
    split at h
    case h_2 => cases h
    case h_1 i hi =>
      split at h
      case h_2 => cases h
      case h_1 e l c hk e1 e2 =>
        rw [e1] at h1; rw [e2] at h2
        have e1' := RepV.sc_inv h1
        have e2' := RepV.sc_inv h2
        split at h
        case h_2 => cases h
        case h_1 ie he =>
          split at h
          case isFalse => cases h
          case isTrue hc =>
            cases h
            obtain ⟨hl0, hlc, hcb, hcm, hz0, hzl⟩ := hc
            obtain ⟨info, z, g1, g2, g3, g4, g5⟩ := (hT.row he).info
            have hzs : z.cells.size = ie.size := by rw [← hzl, ← g5]; simp
            have hz0' : 0 < z.cells.size := by omega
            refine ⟨(Array.range (c.toNat * z.cells.size)).map (fun i => z.cells[i % z.cells.size]!), info, .slice (some ⟨E.w.heap.size, 0, none⟩) l.toNat c.toNat, ?_, by rw [zeros_eq _ _ hz0', g5]; exact rep_scs _, g1, fun F N hN hF => ?_⟩
            · unfold execOp; rw [ho]
              have hb : roomMax = 2 ^ 46 := rfl
              have w1 : IntKind.i64.wrap l = l := by simp [IntKind.wrap, IntKind.bits, IntKind.signed]; omega
              have w2 : IntKind.i64.wrap c = c := by simp [IntKind.wrap, IntKind.bits, IntKind.signed]; omega
              have hbb : ¬ ((info.bytes : Int) * c > 2 ^ 48) := by
                rw [g3, Int.mul_comm]
                omega
              have hneg : (decide (c < 0) || decide ((info.bytes : Int) * c > 2 ^ 48) || decide (l < 0) || decide (l > c)) = false := by
                simp only [Bool.or_eq_false_iff, decide_eq_false_iff_not]
                exact ⟨⟨⟨by omega, hbb⟩, by omega⟩, by omega⟩
              simp only [e1', e2', Instr.makeSlice, Sem.run_bind, run_under ((hT.row hi).slice hk), Result.andThen_ok, asInt, asIntOf, Sem.run_pure, run_info g1, w1, w2]
              rw [hneg]
              simp only [Bool.false_eq_true, if_false, Sem.run_bind, run_askRoom, Result.andThen_ok, run_size g1, g2]
              by_cases hn : c.toNat * ie.size = 0
              · rw [if_pos hn]
                simp only [Sem.run_bind, Sem.run_pure, Result.andThen_ok, newRow, run_newObj, hzs, hn]
                simp [pushW, show Array.range 0 = #[] from rfl]
              · rw [if_neg hn]
                simp only [Sem.run_bind, Sem.run_pure, Result.andThen_ok, run_zero g1 g4, newRow, run_newObj, hzs]
                simp [pushW]
            · simp only [RepV]
              exact ⟨hN, _, c.toNat, rfl, by omega, fun q hq => by simpa using hq, fun l' hl' => by
                rw [hF] at hl'; cases hl'; exact ⟨rfl, fun hn => by cases hn⟩⟩
  | _ => rw [ho] at h; cases h

/-- What an operation that makes a block anew comes to. -/
def AllocEq (T : Tab) (op : Op) (t : Nat → AV) (H : Nat → Option Blk) (n : Nat) (v : AV) (H' : Nat → Option Blk) (n' : Nat) : Prop :=
  lateOp op = true → ∃ f cs ty, newOf T t op = some (f, cs, ty) ∧ v = f n ∧ H' = upd H n (some (.cells cs ty)) ∧ n' = n + 1

theorem AllocEq.none {op : Op} {t : Nat → AV} {H : Nat → Option Blk} {n : Nat} {v : AV} (h : AllocEq T op t H n v H n) {t' : Nat → AV} {H2 H3 : Nat → Option Blk} {n2 n3 : Nat} : AllocEq T op t' H2 n2 v H3 n3 := fun e => by
  obtain ⟨_, _, _, _, _, _, h⟩ := h e; omega

theorem AllocEq.move {op : Op} {t t' : Nat → AV} {H H' : Nat → Option Blk} {n n' : Nat} {v : AV} (h : AllocEq T op t H n v H' n') (ht : ∀ x ∈ op.operands, ev t' x = ev t x) : AllocEq T op t' H n v H' n' := fun e => by
  obtain ⟨f, cs, ty, h1, h2⟩ := h e
  exact ⟨f, cs, ty, (newOf_congr ht).trans h1, h2⟩

def SemD (P : Program) (T : Tab) (k : Nat) (G : Array Oper) (cl : List Cls) : List Nat → St → St → Prop
  | [], s, s' => s = s'
  | i :: l, s, s' => ∃ o, G[i]? = some o ∧ dstOk k o = true ∧
    ((wantedA G o s.t = some false ∧ SemD P T k G cl l ⟨putA s.t o.dst (.tup []), s.H, s.n⟩ s') ∨
     (wantedA G o s.t = some true ∧ ∃ v H' n' c, cl[i]? = some c ∧ DoesL P o s.t s.H s.n v H' n' c ∧ AllocEq T o.op s.t s.H s.n v H' n' ∧ SemD P T k G cl l ⟨putA s.t o.dst v, H', n'⟩ s'))

theorem ev_putA {t : Nat → AV} {d : Option Nat} {v : AV} {x : Operand} (h : ∀ e, d = some e → x ≠ .tmp e) : ev (putA t d v) x = ev t x := by
  cases d with
  | none => rfl
  | some e =>
    cases x with
    | tmp i =>
      have : i ≠ e := fun e' => h e rfl (by rw [e'])
      simp only [ev, putA]
      exact upd_ne _ _ this
    | _ => rfl

theorem evs_putA {G : Array Oper} {t : Nat → AV} {d : Option Nat} {v : AV} {o : Oper} (h : ∀ e, d = some e → e ∉ o.looksAt G) : ∀ x ∈ o.op.operands, ev (putA t d v) x = ev t x := by
  intro x hx
  refine ev_putA fun e he hxe => h e he ?_
  subst hxe
  exact List.mem_append_left _ (List.mem_filterMap.2 ⟨.tmp e, by simpa using hx, rfl⟩)

theorem wantedA_putA {G : Array Oper} {t : Nat → AV} {d : Option Nat} {v : AV} {o : Oper} (h : ∀ e, d = some e → e ∉ o.looksAt G) : wantedA G o (putA t d v) = wantedA G o t := by
  cases d with
  | none => rfl
  | some e =>
    unfold wantedA
    cases hg : o.guard with
    | none => rfl
    | some gw =>
      obtain ⟨g, want⟩ := gw
      cases hd : (G[g]?).bind (·.dst) with
      | none => simp only [hd]
      | some i =>
        have : i ≠ e := fun e' => h e rfl (by subst e'; simp [Oper.looksAt, hg, hd])
        simp only [putA, hd]
        rw [upd_ne _ _ this]

theorem putA_comm {t : Nat → AV} {d e : Option Nat} {u v : AV} (h : ∀ x, d = some x → e ≠ some x) : putA (putA t d u) e v = putA (putA t e v) d u := by
  cases d with
  | none => rfl
  | some a =>
    cases e with
    | none => rfl
    | some b =>
      have : b ≠ a := fun e' => h a rfl (by rw [e'])
      funext i
      simp only [putA, upd]
      by_cases h1 : i = a <;> by_cases h2 : i = b <;> simp [h1, h2]
      · omega
      · intro e'; omega
      · intro e'; omega

/-- Two that stand beside each other change places. -/
theorem semD_swap {k : Nat} {G : Array Oper} {cl : List Cls} {i j : Nat} {l : List Nat} {s s' : St} (hi : indep G cl i j = true) (h : SemD P T k G cl (i :: j :: l) s s') : SemD P T k G cl (j :: i :: l) s s' := by
  obtain ⟨x, hx, hxd, h⟩ := h
  unfold indep at hi
  rw [hx] at hi
  cases hy' : G[j]? with
  | none => rw [hy'] at hi; cases hi
  | some y =>
  rw [hy'] at hi
  simp only [Bool.and_eq_true] at hi
  obtain ⟨hap, hcl⟩ := hi
  obtain ⟨q1, q2, q3⟩ := Oper.apart_spec hap
  have hwy : ∀ (t : Nat → AV) (u : AV), wantedA G y (putA t x.dst u) = wantedA G y t := fun t u => wantedA_putA q1
  have hwx : ∀ (t : Nat → AV) (u : AV), wantedA G x (putA t y.dst u) = wantedA G x t := fun t u => wantedA_putA q3
  have hey : ∀ (t : Nat → AV) (u : AV), ∀ z ∈ y.op.operands, ev t z = ev (putA t x.dst u) z := fun t u z hz => (evs_putA q1 z hz).symm
  have hex : ∀ (t : Nat → AV) (u : AV), ∀ z ∈ x.op.operands, ev (putA t y.dst u) z = ev t z := fun t u => evs_putA q3
  rcases h with ⟨hw1, y2, hy2, hyd, h⟩ | ⟨hw1, v, H1, n1, c1, hc1, hd1, ha1, y2, hy2, hyd, h⟩
  · rw [hy'] at hy2; cases hy2
    simp only [hwy] at h
    rcases h with ⟨hw2, h⟩ | ⟨hw2, v2, H2, n2, c2, hc2, hd2, ha2, h⟩
    · refine ⟨y, hy', hyd, .inl ⟨hw2, x, hx, hxd, .inl ⟨by rw [hwx]; exact hw1, ?_⟩⟩⟩
      rw [← putA_comm q2]; exact h
    · refine ⟨y, hy', hyd, .inr ⟨hw2, v2, H2, n2, c2, hc2, hd2.move (hey _ _), ha2.move (hey _ _), x, hx, hxd, .inl ⟨by rw [hwx]; exact hw1, ?_⟩⟩⟩
      rw [← putA_comm q2]; exact h
  · rw [hy'] at hy2; cases hy2
    simp only [hwy] at h
    rcases h with ⟨hw2, h⟩ | ⟨hw2, v2, H2, n2, c2, hc2, hd2, ha2, h⟩
    · refine ⟨y, hy', hyd, .inl ⟨hw2, x, hx, hxd, .inr ⟨by rw [hwx]; exact hw1, v, H1, n1, c1, hc1, hd1.move (hex _ _), ha1.move (hex _ _), ?_⟩⟩⟩
      rw [← putA_comm q2]; exact h
    · rw [hc1, hc2] at hcl
      cases c1 with
      | rd R1 =>
        obtain ⟨rfl, rfl, hd1'⟩ := hd1
        cases c2 with
        | rd R2 =>
          obtain ⟨rfl, rfl, hd2'⟩ := hd2
          refine ⟨y, hy', hyd, .inr ⟨hw2, v2, s.H, s.n, _, hc2, ⟨rfl, rfl, fun t' H3 n3 h3 hR => hd2' t' H3 n3 (fun z hz => (h3 z hz).trans (hey _ _ z hz)) hR⟩, ha2.move (hey _ _), x, hx, hxd, .inr ⟨by rw [hwx]; exact hw1, v, s.H, s.n, _, hc1, ⟨rfl, rfl, fun t' H3 n3 h3 hR => hd1' t' H3 n3 (fun z hz => (h3 z hz).trans (hex _ _ z hz)) hR⟩, ha1.move (hex _ _), ?_⟩⟩⟩
          rw [← putA_comm q2]; exact h
        | mem S b =>
          obtain ⟨hd2', hS⟩ := hd2
          simp only [Cls.indep, List.all_eq_true, Bool.and_eq_true, decide_eq_true_eq, Bool.not_eq_true', List.contains_eq_mem, decide_eq_false_iff_not] at hcl
          refine ⟨y, hy', hyd, .inr ⟨hw2, v2, H2, n2, _, hc2, ⟨fun t' h3 => hd2' t' fun z hz => (h3 z hz).trans (hey _ _ z hz), hS⟩, ha2.move (hey _ _), x, hx, hxd, .inr ⟨by rw [hwx]; exact hw1, v, H2, n2, _, hc1, ⟨rfl, rfl, fun t' H3 n3 h3 hR => hd1' t' H3 n3 (fun z hz => (h3 z hz).trans (hex _ _ z hz)) fun q hq => (hR q hq).trans (hS q (hcl q hq).1 (hcl q hq).2)⟩, ha1.none, ?_⟩⟩⟩
          rw [← putA_comm q2]; exact h
      | mem S b =>
        obtain ⟨hd1', hS⟩ := hd1
        cases c2 with
        | rd R2 =>
          obtain ⟨rfl, rfl, hd2'⟩ := hd2
          simp only [Cls.indep, List.all_eq_true, Bool.and_eq_true, decide_eq_true_eq, Bool.not_eq_true', List.contains_eq_mem, decide_eq_false_iff_not] at hcl
          refine ⟨y, hy', hyd, .inr ⟨hw2, v2, s.H, s.n, _, hc2, ⟨rfl, rfl, fun t' H3 n3 h3 hR => hd2' t' H3 n3 (fun z hz => (h3 z hz).trans (hey _ _ z hz)) fun q hq => (hR q hq).trans (hS q (hcl q hq).1 (hcl q hq).2).symm⟩, ha2.none, x, hx, hxd, .inr ⟨by rw [hwx]; exact hw1, v, H2, n2, _, hc1, ⟨fun t' h3 => hd1' t' fun z hz => (h3 z hz).trans (hex _ _ z hz), hS⟩, ha1.move (hex _ _), ?_⟩⟩⟩
          rw [← putA_comm q2]; exact h
        | mem S2 b2 => simp [Cls.indep] at hcl

theorem semD_cons {k : Nat} {G : Array Oper} {cl : List Cls} {i : Nat} {l l' : List Nat} (h : ∀ s s', SemD P T k G cl l s s' → SemD P T k G cl l' s s') (s s' : St) (hs : SemD P T k G cl (i :: l) s s') : SemD P T k G cl (i :: l') s s' := by
  obtain ⟨o, h1, h2, h3⟩ := hs
  refine ⟨o, h1, h2, ?_⟩
  rcases h3 with ⟨h3, h4⟩ | ⟨h3, v, H', n', c, hc, h5, h5a, h6⟩
  · exact .inl ⟨h3, h _ _ h4⟩
  · exact .inr ⟨h3, v, H', n', c, hc, h5, h5a, h _ _ h6⟩

/-- One that waits for none of those ahead of it comes first. -/
theorem semD_front {k : Nat} {G : Array Oper} {cl : List Cls} {i : Nat} : ∀ {A B : List Nat}, (∀ a ∈ A, indep G cl a i = true) → ∀ s s', SemD P T k G cl (A ++ i :: B) s s' → SemD P T k G cl (i :: (A ++ B)) s s'
  | [], _, _, _, _, h => h
  | a :: A, B, hA, s, s', h => semD_swap (hA a (by simp)) (semD_cons (semD_front (A := A) (B := B) fun b hb => hA b (by simp [hb])) s s' h)

theorem waits_listed {G : Array Oper} {listed : Array Bool} (hdown : ∀ b o, listed.getD b false = true → G[b]? = some o → ∀ e ∈ o.after, Region.binds .any e = true → listed.getD e.on false = true) :
    ∀ (f a i : Nat) (o : Oper), G[i]? = some o → (∀ e ∈ o.after, Region.binds .any e = true → listed.getD e.on false = true) → waits G f a i = true → listed.getD a false = true
  | 0, _, _, _, _, _, h => by simp [waits] at h
  | f + 1, a, i, o, ho, hl, h => by
    simp only [waits, ho] at h
    simp only [List.any_eq_true, Bool.and_eq_true, Bool.or_eq_true, beq_iff_eq] at h
    obtain ⟨e, he, hb, h⟩ := h
    have hle := hl e (by simpa using he) hb
    rcases h with h | h
    · rw [← h]; exact hle
    · cases hg : G[e.on]? with
      | none => unfold waits at h; cases f <;> simp [hg] at h
      | some o' => exact waits_listed hdown f a e.on o' hg (hdown e.on o' hle hg) h

theorem mem_split {R : List Nat} {i : Nat} (h : i ∈ R) (hs : R.Pairwise (· < ·)) : ∃ A B, R = A ++ i :: B ∧ (∀ a ∈ A, a < i) := by
  obtain ⟨A, B, rfl⟩ := List.append_of_mem h
  refine ⟨A, B, rfl, fun a ha => ?_⟩
  rw [List.pairwise_append] at hs
  exact hs.2.2 a ha i (by simp)

/-- Another table of names, and other blocks of others. -/
structure Rx (E F : Env) : Prop where
  N : E.N ≤ F.N
  old : ∀ i l, i < E.N → F.m i = some l → E.m i = some l
  sh : ∀ b, b < E.w.heap.size → E.shared b → F.shared b ∧ F.w.heap[b]? = E.w.heap[b]?

mutual
theorem RepV.rx {E F : Env} (h : Rx E F) : ∀ (a : AV) (v : Value), RepV E a v → RepV F a v
  | .sc _, _, hr => by simpa [RepV] using hr
  | .own i o, u, hr => by
    simp only [RepV] at hr ⊢
    obtain ⟨h1, a, h2, h3⟩ := hr
    exact ⟨Nat.lt_of_lt_of_le h1 h.N, a, h2, fun l hl => h3 l (h.old i l h1 hl)⟩
  | .osl i o n c, u, hr => by
    simp only [RepV] at hr ⊢
    obtain ⟨h1, a, cap, h2, h3, h4, h5⟩ := hr
    exact ⟨Nat.lt_of_lt_of_le h1 h.N, a, cap, h2, h3, h4, fun l hl => h5 l (h.old i l h1 hl)⟩
  | .sh cs, u, hr => by
    simp only [RepV] at hr ⊢
    obtain ⟨b, o, cells, ty, fz, e, hs, hb, hl⟩ := hr
    obtain ⟨hs', hb'⟩ := h.sh b (lt_of_block hb) hs
    exact ⟨b, o, cells, ty, fz, e, hs', by rw [hb', hb], RepL.rx h _ _ hl⟩
  | .ssl cs n full, u, hr => by
    simp only [RepV] at hr ⊢
    rcases hr with ⟨b, o, cells, ty, fz, cap, e, h1, h2, hs, hb, hl⟩ | hr
    · obtain ⟨hs', hb'⟩ := h.sh b (lt_of_block hb) hs
      exact .inl ⟨b, o, cells, ty, fz, cap, e, h1, h2, hs', by rw [hb', hb], RepL.rx h _ _ hl⟩
    · exact .inr hr
  | .esl full, u, hr => by simpa [RepV] using hr
  | .agg cs, u, hr => by
    simp only [RepV] at hr ⊢
    obtain ⟨a, e, h1, h2⟩ := hr
    exact ⟨a, e, h1, RepL.rx h _ _ h2⟩
  | .tup cs, u, hr => by
    simp only [RepV] at hr ⊢
    obtain ⟨a, e, h1, h2⟩ := hr
    exact ⟨a, e, h1, RepL.rx h _ _ h2⟩
  | .fn f x y, u, hr => by
    simp only [RepV] at hr ⊢
    obtain ⟨a, b, e, h1, h2, h3, h4⟩ := hr
    exact ⟨a, b, e, h1, RepL.rx h _ _ h2, h3, RepL.rx h _ _ h4⟩
  | .omap i, u, hr => by
    simp only [RepV] at hr ⊢
    obtain ⟨h1, a, h2, h3⟩ := hr
    exact ⟨Nat.lt_of_lt_of_le h1 h.N, a, h2, fun l hl => h3 l (h.old i l h1 hl)⟩
  | .yld i, u, hr => by
    simp only [RepV] at hr ⊢
    obtain ⟨h1, a, h2, h3⟩ := hr
    exact ⟨Nat.lt_of_lt_of_le h1 h.N, a, h2, fun l hl => h3 l (h.old i l h1 hl)⟩
  | .any, u, hr => by simp [RepV]
theorem RepL.rx {E F : Env} (h : Rx E F) : ∀ (as : List AV) (vs : List Value), RepL E as vs → RepL F as vs
  | [], _, _ => by simp [RepL]
  | _ :: _, [], hr => by simp [RepL] at hr
  | a :: as, v :: vs, hr => by
    simp only [RepL] at hr ⊢
    exact ⟨RepV.rx h a v hr.1, RepL.rx h as vs hr.2⟩
end

theorem RepB.rx {E F : Env} (h : Rx E F) {l : Loc} {blk : Blk} (hb : F.w.heap[l.b]? = E.w.heap[l.b]?) (hr : RepB P E l blk) : RepB P F l blk := by
  cases blk with
  | cells cs ty =>
    obtain ⟨cells, fz, info, h1, h2, h3, h4, h5, h6⟩ := hr
    exact ⟨cells, fz, info, by rw [hb, h1], RepL.rx h _ _ h2, h3, h4, h5, h6⟩
  | map es c =>
    obtain ⟨ents, h1, h2, h3, h4⟩ := hr
    exact ⟨ents, by rw [hb, h1], h2, h3, RepL.rx h _ _ h4⟩
  | loop t k ps asg bod st =>
    obtain ⟨r, h1, h2, h3, h4, h5, h6, h7⟩ := hr
    exact ⟨r, by rw [hb, h1], h2, h3, h4, h5, h6, fun i => RepV.rx h _ _ (h7 i)⟩

theorem hokr_of {G : Array Oper} {cl : List Cls} {q : Option Nat} (hok : drawOk G cl q = true) {i : Nat} {o : Oper} (ho : G[i]? = some o) :
    (∀ e ∈ o.after, Region.binds .any e = true → e.on < i) ∧ ∀ b, b < i → pairOk G cl q b i = true := by
  have hlt := (Array.getElem?_eq_some_iff.1 ho).1
  have := List.all_eq_true.1 hok i (by simpa using hlt)
  rw [ho] at this
  simp only [Bool.and_eq_true, List.all_eq_true, Bool.or_eq_true, Bool.not_eq_true', decide_eq_true_eq, List.mem_range] at this
  refine ⟨fun e he hb => ?_, fun b hb => this.2 b hb⟩
  rcases this.1 e (by simpa using he) with h | h
  · rw [hb] at h; cases h
  · exact h

/-- What is known while the late allocation has no name yet. -/
structure Lat (P : Program) (T : Tab) (C : Ctx) (oq : Oper) (d b : Nat) (f : Nat → AV) (cs : List AV) (ty : Nat) (E0 E : Env) (s : St) (k : Nat) (a : Act) : Prop where
  H : RepH P E s.H
  X : E.X = fun x => E0.X x ∨ x = b
  xb : Xb E
  nX : ¬ E0.X b
  N : E.N = s.n
  t : RepT E k (upd s.t d .any) a
  new : newOf T s.t oq.op = some (f, cs, ty)
  blk : ∃ cells info, E.w.heap[b]? = some (.cells cells ty) ∧ RepL E cs cells.toList ∧ P.info? ty = some info ∧
    ∀ (F : Env) (N : Nat), N < F.N → F.m N = some ⟨b, cells.size, info.size⟩ → RepV F (f N) (a.tmps.getD d undef)
  ge : E0.w.heap.size ≤ b
  ext : Ext E0 { E with X := E0.X }
  m : Mk C E a.defers

/-- The late allocation gets its name. -/
theorem Lat.claim {C : Ctx} {oq : Oper} {d b ty : Nat} {f : Nat → AV} {cs : List AV} {E0 E : Env} {s : St} {k : Nat} {a : Act} (h : Lat P T C oq d b f cs ty E0 E s k a) :
    ∃ E2, Ext E0 E2 ∧ E2.w = E.w ∧ Good P C E2 k ⟨upd s.t d (f s.n), upd s.H s.n (some (.cells cs ty)), s.n + 1⟩ a := by
  obtain ⟨cells, info, h1, h2, h3, hval⟩ := h.blk
  have hb := lt_of_block h1
  let E2 : Env := ⟨E0.X, E.N + 1, upd E.m E.N (some ⟨b, cells.size, info.size⟩), E.w⟩
  have hun : ∀ i l, E.m i = some l → l.b ≠ b := fun i l hl e => (h.H.lt i l hl).2.2.1 (by rw [h.X]; exact .inr e)
  have hx0 : ∀ i l, E.m i = some l → ¬ E0.X l.b := fun i l hl e => (h.H.lt i l hl).2.2.1 (by rw [h.X]; exact .inl e)
  have rx : Rx E E2 := by
    refine ⟨Nat.le_succ _, fun i l hi hl => ?_, fun b' hb' hs => ⟨⟨fun e => hs.1 (by rw [h.X]; exact .inl e), fun i l hl => ?_⟩, rfl⟩⟩
    · simp only [E2] at hl; rwa [upd_ne _ _ (by omega)] at hl
    · simp only [E2] at hl
      by_cases e : i = E.N
      · subst e; rw [upd_same] at hl; cases hl
        intro e; exact hs.1 (by rw [h.X]; exact .inr e.symm)
      · rw [upd_ne _ _ e] at hl; exact hs.2 i l hl
  have hx := h.ext
  refine ⟨E2, ⟨rfl, Nat.le_succ_of_le hx.N, hx.os, hx.tape, hx.output, hx.size, hx.keep, fun i l hi hl => ?_, fun i l hl => ?_, hx.lp⟩, rfl, ⟨⟨fun i' blk hblk => ?_, fun i l hl => ?_, fun i j l l' hl hl' e => ?_⟩, fun b' hb' => h.xb b' (by rw [h.X]; exact .inl hb'), by simp only [E2]; rw [h.N], ⟨h.t.size, fun x => ?_⟩, h.m.loop, h.m.B, h.m.nd, fun dd hdd => ?_⟩⟩
  · simp only [E2] at hl
    have := hx.N
    simp only at this
    rw [upd_ne _ _ (by omega)] at hl
    exact hx.old i l hi hl
  · simp only [E2] at hl
    by_cases e : i = E.N
    · subst e; rw [upd_same] at hl; cases hl; exact .inl h.ge
    · rw [upd_ne _ _ e] at hl; exact hx.new i l hl
  · simp only at hblk
    by_cases e : i' = s.n
    · subst e
      rw [upd_same] at hblk; cases hblk
      exact ⟨⟨b, cells.size, info.size⟩, by simp only [E2]; rw [h.N, upd_same], cells, (0, 0), info, h1, RepL.rx rx _ _ h2, rfl, .inl rfl, h3, rfl⟩
    · rw [upd_ne _ _ e] at hblk
      obtain ⟨l, hl, hr⟩ := h.H.own i' blk hblk
      exact ⟨l, by simp only [E2]; rw [h.N, upd_ne _ _ e]; exact hl, RepB.rx rx rfl hr⟩
  · simp only [E2] at hl ⊢
    by_cases e : i = E.N
    · subst e; rw [upd_same] at hl; cases hl
      exact ⟨Nat.lt_succ_self _, hb, h.nX, _, by rw [h.N, upd_same]⟩
    · rw [upd_ne _ _ e] at hl
      obtain ⟨q1, q2, q3, blk, q4⟩ := h.H.lt i l hl
      exact ⟨by omega, q2, hx0 i l hl, blk, by rw [h.N] at e; rw [upd_ne _ _ e]; exact q4⟩
  · simp only [E2] at hl hl'
    by_cases e1 : i = E.N <;> by_cases e2 : j = E.N
    · rw [e1, e2]
    · subst e1; rw [upd_same] at hl; rw [upd_ne _ _ e2] at hl'; cases hl
      exact absurd e.symm (hun j l' hl')
    · subst e2; rw [upd_same] at hl'; rw [upd_ne _ _ e1] at hl; cases hl'
      exact absurd e (hun i l hl)
    · rw [upd_ne _ _ e1] at hl; rw [upd_ne _ _ e2] at hl'; exact h.H.inj i j l l' hl hl' e
  · simp only
    by_cases e : x = d
    · subst e
      rw [upd_same]
      exact hval E2 s.n (by simp only [E2]; rw [h.N]; exact Nat.lt_succ_self _) (by simp only [E2]; rw [h.N, upd_same])
    · rw [upd_ne _ _ e]
      have := h.t.at_ x
      rw [upd_ne _ _ e] at this
      exact RepV.rx rx _ _ this
  · obtain ⟨b', e1, e2, e3, e4⟩ := h.m.marks dd hdd
    refine ⟨b', e1, e2, fun i l hl => ?_, e4⟩
    simp only [E2] at hl
    by_cases e : i = E.N
    · subst e; rw [upd_same] at hl; cases hl
      rintro rfl
      rw [h1] at e4; cases e4
    · rw [upd_ne _ _ e] at hl; exact e3 i l hl

/-- One more operation while it waits. -/
theorem Lat.step {C : Ctx} {oq : Oper} {d b ty : Nat} {f : Nat → AV} {cs : List AV} {E0 E E' : Env} {s : St} {k : Nat} {a : Act} (h : Lat P T C oq d b f cs ty E0 E s k a) (hx : Ext E E') {H' : Nat → Option Blk} {n' : Nat} (hH : RepH P E' H') (hX : Xb E') (hN : E'.N = n') {dst : Option Nat} {v : AV} {z : Value} (hv : RepV E' v z) (hd : dst ≠ some d) (hk : ∀ e, dst = some e → e < k) (hq : ∀ x ∈ oq.op.operands, ev (putA s.t dst v) x = ev s.t x) :
    Lat P T C oq d b f cs ty E0 E' ⟨putA s.t dst v, H', n'⟩ k (a.put dst z) := by
  have hun : ∀ i l, E.m i = some l → l.b ≠ b := fun i l hl e => (h.H.lt i l hl).2.2.1 (by rw [h.X]; exact .inr e)
  refine ⟨hH, by rw [hx.X, h.X], hX, h.nX, hN, ?_, (newOf_congr hq).trans h.new, ?_, h.ge, ?_, by rw [put_defers]; exact h.m.ext hx⟩
  · have := h.t.ext hx
    cases dst with
    | none => simpa [putA, Act.put] using this
    | some e =>
      have ne : d ≠ e := fun e' => hd (by rw [e'])
      have := this.put (hk e rfl) hv
      have e1 : upd (putA s.t (some e) v) d .any = upd (upd s.t d .any) e v := by
        funext x
        simp only [putA, upd]
        by_cases e1 : x = d <;> by_cases e2 : x = e <;> simp [e1, e2]
        · omega
        · intro e'; omega
        · intro e'; omega
      rw [e1]; exact this
  · obtain ⟨cells, info, h1, h2, h3, h4⟩ := h.blk
    refine ⟨cells, info, by rw [hx.keep b (lt_of_block h1) hun]; exact h1, RepL.ext hx _ _ h2, h3, ?_⟩
    have e1 : (a.put dst z).tmps.getD d undef = a.tmps.getD d undef := by
      cases dst with
      | none => rfl
      | some e =>
        have ne : d ≠ e := fun e' => hd (by rw [e'])
        simp only [Act.put, Array.getD_eq_getD_getElem?]
        rw [Array.getElem?_setIfInBounds_ne (by omega)]
    rw [e1]; exact h4
  · exact h.ext.trans ⟨rfl, hx.N, hx.os, hx.tape, hx.output, hx.size, hx.keep, hx.old, hx.new, hx.lp⟩

theorem semD_dst {k : Nat} {G : Array Oper} {cl : List Cls} {i : Nat} {o : Oper} {d : Nat} (ho : G[i]? = some o) (hd : o.dst = some d) : ∀ {R : List Nat} {s s' : St}, i ∈ R → SemD P T k G cl R s s' → d < k
  | r :: R, s, s', hi, hs => by
    obtain ⟨o2, h1, h2, h3⟩ := hs
    rcases List.mem_cons.1 hi with e | e
    · subst e
      rw [ho] at h1; cases h1
      unfold dstOk at h2; rw [hd] at h2; simpa using h2
    · rcases h3 with ⟨_, h⟩ | ⟨_, _, _, _, _, _, _, _, h⟩
      · exact semD_dst ho hd e h
      · exact semD_dst ho hd e h

theorem ready_of {G : Array Oper} {listed : Array Bool} {r : Nat} (hsz : listed.size = G.size) (hlt : r < G.size) (hl : listed.getD r false = false) (hall : ∀ e ∈ (G[r]'hlt).after, Region.binds .any e = true → listed.getD e.on false = true) : r ∈ Region.ready .any G listed := by
  refine mem_ready.2 ⟨?_, G[r], by simp [hlt], hall⟩
  simp only [Array.getD_eq_getD_getElem?] at hl ⊢
  rw [Array.getElem?_eq_getElem (by omega)] at hl ⊢
  exact hl

theorem of_ready {G : Array Oper} {listed : Array Bool} {i : Nat} (hsz : listed.size = G.size) (hi : i ∈ Region.ready .any G listed) : ∃ o, G[i]? = some o ∧ i < G.size ∧ listed.getD i false = false ∧ ∀ e ∈ o.after, Region.binds .any e = true → listed.getD e.on false = true := by
  obtain ⟨h1, o, ho, hall⟩ := mem_ready.1 hi
  have hilt := (Array.getElem?_eq_some_iff.1 ho).1
  refine ⟨o, ho, hilt, ?_, hall⟩
  simp only [Array.getD_eq_getD_getElem?] at h1 ⊢
  rw [Array.getElem?_eq_getElem (by omega)] at h1 ⊢
  exact h1

theorem hset_of {listed : Array Bool} {i : Nat} (h : i < listed.size) (j : Nat) : (listed.setIfInBounds i true).getD j false = if j = i then true else listed.getD j false := by
  by_cases e : j = i
  · subst e; rw [if_pos rfl]; simp [h]
  · rw [if_neg e, getD_set_ne false (by omega)]

theorem hdown_set {G : Array Oper} {listed : Array Bool} {i : Nat} {o : Oper} (h : i < listed.size) (ho : G[i]? = some o) (hall : ∀ e ∈ o.after, Region.binds .any e = true → listed.getD e.on false = true)
    (hdown : ∀ b o, listed.getD b false = true → G[b]? = some o → ∀ e ∈ o.after, Region.binds .any e = true → listed.getD e.on false = true) :
    ∀ b o', (listed.setIfInBounds i true).getD b false = true → G[b]? = some o' → ∀ e ∈ o'.after, Region.binds .any e = true → (listed.setIfInBounds i true).getD e.on false = true := by
  intro b o' hb ho' e he hbd
  rw [hset_of h] at hb
  split at hb
  · rename_i e'; subst e'
    rw [ho] at ho'; cases ho'
    exact getD_set_true (hall e he hbd)
  · exact getD_set_true (hdown b o' hb ho' e he hbd)

theorem split_facts {R A B : List Nat} {i : Nat} (hp : R.Pairwise (· < ·)) (hAB : R = A ++ i :: B) (hA : ∀ a ∈ A, a < i) : (A ++ B).Pairwise (· < ·) ∧ i ∉ A ++ B ∧ ∀ j, j ∈ A ++ B ↔ (j ∈ R ∧ j ≠ i) := by
  have hpAB : (A ++ B).Pairwise (· < ·) := by
    rw [hAB] at hp
    exact hp.sublist (by simp)
  have hnd : R.Nodup := hp.imp (fun h => Nat.ne_of_lt h)
  have hiAB : i ∉ A ++ B := by
    rw [hAB] at hnd
    have := hnd
    simp only [List.nodup_append, List.nodup_cons] at this
    simp only [List.mem_append, not_or]
    exact ⟨fun h => by have := hA i h; omega, this.2.1.1⟩
  refine ⟨hpAB, hiAB, fun j => ?_⟩
  rw [hAB]
  by_cases e : j = i
  · subst e; simp only [ne_eq, not_true, and_false, iff_false]; exact hiAB
  · simp [e]

def AnyP (P : Program) (T : Tab) (k : Nat) (G : Array Oper) (cl : List Cls) (R : List Nat) : Prop :=
  ∀ (C : Ctx) (listed : Array Bool) (E : Env) (s s' : St) (a : Act) (Q : Exit → Act → World → Prop), R.Pairwise (· < ·) → listed.size = G.size →
    (∀ i, i ∈ R ↔ (i < G.size ∧ listed.getD i false = false)) →
    (∀ b o, listed.getD b false = true → G[b]? = some o → ∀ e ∈ o.after, Region.binds .any e = true → listed.getD e.on false = true) →
    SemD P T k G cl R s s' → Good P C E k s a → (∀ E' a', Ext E E' → Good P C E' k s' a' → Q .normal a' E'.w) → wpAnyIn (FR C.ro) 0 P .any G Q R.length listed a E.w

def OneP (P : Program) (T : Tab) (k : Nat) (G : Array Oper) (cl : List Cls) (p d : Nat) (oq : Oper) (R : List Nat) : Prop :=
  ∀ (C : Ctx) (listed : Array Bool) (E0 E : Env) (b : Nat) (f : Nat → AV) (cs : List AV) (ty : Nat) (s s' : St) (a : Act) (Q : Exit → Act → World → Prop), R.Pairwise (· < ·) → listed.size = G.size → p ∈ R → listed.getD p false = true →
    (∀ i, i ∈ R ↔ (i < G.size ∧ (listed.getD i false = false ∨ i = p))) →
    (∀ b o, listed.getD b false = true → G[b]? = some o → ∀ e ∈ o.after, Region.binds .any e = true → listed.getD e.on false = true) →
    SemD P T k G cl R s s' → Lat P T C oq d b f cs ty E0 E s k a → (∀ E' a', Ext E0 E' → Good P C E' k s' a' → Q .normal a' E'.w) → wpAnyIn (FR C.ro) 0 P .any G Q (R.length - 1) listed a E.w

theorem one_step {k : Nat} {G : Array Oper} {cl : List Cls} {q : Option Nat} {p d : Nat} {oq : Oper} (hok : drawOk G cl q = true) (hq : q = some p) (hoq : G[p]? = some oq) (hop : lateOp oq.op = true) (hod : oq.dst = some d) (hgd : oq.guard = none)
    {r : Nat} {R : List Nat} (ih1 : ∀ R', R'.length < (r :: R).length → AnyP P T k G cl R') (ih2 : ∀ R', R'.length < (r :: R).length → OneP P T k G cl p d oq R') : OneP P T k G cl p d oq (r :: R) := by
  intro C listed E0 E b f cs ty s s' a Q hp hsz hpR hlp hR hdown hs lat hQ
  by_cases hrp : r = p
  · -- its turn in the text
    subst hrp
    obtain ⟨o, ho, hd, hstep⟩ := hs
    rw [hoq] at ho; cases ho
    have hw : wantedA G oq s.t = some true := by unfold wantedA; rw [hgd]
    rcases hstep with ⟨hw', _⟩ | ⟨_, v, H', n', c, hc, _, hae, h⟩
    · rw [hw] at hw'; cases hw'
    · obtain ⟨f', cs', ty', hnew, rfl, rfl, rfl⟩ := hae hop
      rw [lat.new] at hnew; cases hnew
      obtain ⟨E2, x1, x2, x3⟩ := lat.claim
      rw [hod] at h
      have hnd := List.pairwise_cons.1 hp
      have := ih1 R (by simp) C listed E2 _ s' a Q hnd.2 hsz (fun j => by
          constructor
          · intro hj
            have := (hR j).1 (by simp [hj])
            refine ⟨this.1, ?_⟩
            rcases this.2 with h | h
            · exact h
            · have := hnd.1 j hj; omega
          · rintro ⟨hj, hl⟩
            have := (hR j).2 ⟨hj, .inl hl⟩
            rcases List.mem_cons.1 this with e | e
            · subst e; rw [hlp] at hl; cases hl
            · exact e) hdown h x3 (fun E' a' r1 r2 => hQ E' a' (x1.trans r1) r2)
      rw [x2] at this
      simpa using this
  · by_cases hcl : ∀ x ∈ r :: R, x < p → indep G cl x p = true
    · -- nothing that is left ahead of it has to do with it: it gets its name now
      obtain ⟨A, B, hAB, hA⟩ := mem_split hpR hp
      have hs2 := semD_front (fun x hx => hcl x (by rw [hAB]; simp [hx]) (hA x hx)) s s' (hAB ▸ hs)
      obtain ⟨o, ho, hd, hstep⟩ := hs2
      rw [hoq] at ho; cases ho
      have hw : wantedA G oq s.t = some true := by unfold wantedA; rw [hgd]
      rcases hstep with ⟨hw', _⟩ | ⟨_, v, H', n', c, hc, _, hae, h⟩
      · rw [hw] at hw'; cases hw'
      · obtain ⟨f', cs', ty', hnew, rfl, rfl, rfl⟩ := hae hop
        rw [lat.new] at hnew; cases hnew
        obtain ⟨E2, x1, x2, x3⟩ := lat.claim
        rw [hod] at h
        obtain ⟨hpAB, hiAB, hjAB⟩ := split_facts hp hAB hA
        have hlen : (r :: R).length - 1 = (A ++ B).length := by
          have := congrArg List.length hAB
          simp at this ⊢
          omega
        have := ih1 (A ++ B) (by rw [← hlen]; simp) C listed E2 _ s' a Q hpAB hsz (fun j => by
            rw [hjAB j, hR j]
            constructor
            · rintro ⟨⟨h1, h2⟩, h3⟩
              exact ⟨h1, h2.resolve_right h3⟩
            · rintro ⟨h1, h2⟩
              refine ⟨⟨h1, .inl h2⟩, fun e => ?_⟩
              rw [e, hlp] at h2; cases h2) hdown h x3 (fun E' a' r1 r2 => hQ E' a' (x1.trans r1) r2)
        rw [x2, ← hlen] at this
        exact this
    obtain ⟨x0, hx0, hx0p, hx0i⟩ : ∃ x, x ∈ r :: R ∧ x < p ∧ indep G cl x p ≠ true := Classical.byContradiction fun hne =>
      hcl fun x hx hxp => Classical.byContradiction fun h => hne ⟨x, hx, hxp, h⟩
    have hr := (hR r).1 (by simp)
    have hrl : listed.getD r false = false := by rcases hr.2 with h | h; exact h; exact absurd h hrp
    have hpR' : p ∈ R := by rcases List.mem_cons.1 hpR with e | e; exact absurd e.symm hrp; exact e
    obtain ⟨m, hm⟩ : ∃ m, R.length = m + 1 := ⟨R.length - 1, by have := List.length_pos_of_mem hpR'; omega⟩
    rw [show (r :: R).length - 1 = m + 1 by simp [hm]]
    refine ⟨fun h0 => ?_, fun i hi => ?_⟩
    · exfalso
      have : r ∈ Region.ready .any G listed := by
        refine ready_of hsz hr.1 hrl fun e he hb => ?_
        have hlt := (hokr_of hok (i := r) (o := G[r]'hr.1) (by simp [hr.1])).1 e he hb
        cases hl : listed.getD e.on false with
        | true => rfl
        | false =>
          have hm := (hR e.on).2 ⟨by omega, .inl hl⟩
          rcases List.mem_cons.1 hm with h' | h'
          · omega
          · have := (List.pairwise_cons.1 hp).1 _ h'; omega
      rw [h0] at this
      simp at this
    · obtain ⟨o, ho, hilt, hlf, hall⟩ := of_ready hsz hi
      have him : i ∈ r :: R := (hR i).2 ⟨hilt, .inl hlf⟩
      have hip : i ≠ p := fun e => by rw [e, hlp] at hlf; cases hlf
      have hqi : ¬ q = some i := fun e => hip (by rw [hq] at e; cases e; rfl)
      show wpOpIn (FR C.ro) 0 P G Q i (wpAnyIn (FR C.ro) 0 P .any G Q m (listed.setIfInBounds i true)) a E.w
      obtain ⟨A, B, hAB, hA⟩ := mem_split him hp
      have key : ∀ x ∈ A, x ≠ p → waits G G.size x i = true → False := by
        intro x hx hxp h
        have hbm : x ∈ r :: R := by rw [hAB]; simp [hx]
        have hbf := ((hR x).1 hbm).2
        have := waits_listed hdown _ x i o ho hall h
        rcases hbf with h' | h'
        · rw [h'] at this; cases this
        · exact hxp h'
      have hrA : i = r ∨ r ∈ A := by
        cases A with
        | nil => left; simp at hAB; exact hAB.1.symm
        | cons x A => right; simp at hAB; simp [hAB.1]
      have hind : ∀ x ∈ A, indep G cl x i = true := by
        intro x hx
        have hpk := (hokr_of hok ho).2 x (hA x hx)
        unfold pairOk at hpk
        by_cases hxp : x = p
        · subst hxp
          rw [if_pos hq, Bool.or_eq_true] at hpk
          rcases hpk with h | h
          · exact h
          · exfalso
            unfold barrier at h
            rw [Bool.and_eq_true, List.all_eq_true] at h
            have h2 := h.2 x0 (by simpa using hx0p)
            rw [Bool.or_eq_true] at h2
            rcases h2 with h2 | h2
            · exact hx0i h2
            · have hbf := ((hR x0).1 hx0).2
              have := waits_listed hdown _ x0 i o ho hall h2
              rcases hbf with h' | h'
              · rw [h'] at this; cases this
              · omega
        · rw [if_neg (fun e => hxp (by rw [hq] at e; cases e; rfl)), if_neg hqi, Bool.or_eq_true] at hpk
          rcases hpk with h | h
          · exact h
          · exact (key x hx hxp h).elim
      -- apart from the late one
      have hap : oq.apart G o = true ∨ o.apart G oq = true := by
        rcases Nat.lt_or_ge p i with hlt | hge
        · left
          have hpA : p ∈ A := by
            have : p ∈ A ++ i :: B := hAB ▸ hpR
            rcases List.mem_append.1 this with h | h
            · exact h
            · rcases List.mem_cons.1 h with h | h
              · exact absurd h.symm hip
              · rw [hAB] at hp
                have := (List.pairwise_cons.1 (List.pairwise_append.1 hp).2.1).1 p h
                omega
          have := hind p hpA
          unfold indep at this
          rw [hoq, ho] at this
          simp only [Bool.and_eq_true] at this
          exact this.1
        · right
          have hpk := (hokr_of hok hoq).2 i (by omega)
          unfold pairOk at hpk
          rw [if_neg hqi, if_pos hq, Bool.or_eq_true] at hpk
          rcases hpk with h | h
          · exfalso
            have := waits_listed hdown _ i p oq hoq (hdown p oq hlp hoq) h
            rw [hlf] at this; cases this
          · unfold apartB at h
            rw [hoq, ho] at h
            exact h
      have hdo : o.dst ≠ some d ∧ d ∉ o.looksAt G := by
        rcases hap with h | h
        · obtain ⟨g1, g2, g3⟩ := Oper.apart_spec h
          exact ⟨g2 d hod, g1 d hod⟩
        · obtain ⟨g1, g2, g3⟩ := Oper.apart_spec h
          exact ⟨fun e => g2 d e hod, g3 d hod⟩
      have hqo : ∀ v, ∀ x ∈ oq.op.operands, ev (putA s.t o.dst v) x = ev s.t x := by
        intro v
        rcases hap with h | h
        · obtain ⟨g1, g2, g3⟩ := Oper.apart_spec h
          exact evs_putA g3
        · obtain ⟨g1, g2, g3⟩ := Oper.apart_spec h
          exact evs_putA g1
      have hs2 := semD_front hind s s' (hAB ▸ hs)
      obtain ⟨o2, ho2, hd2, hstep⟩ := hs2
      rw [ho] at ho2; cases ho2
      have hlen : m = (A ++ B).length - 1 := by
        have := congrArg List.length hAB
        simp at this ⊢
        omega
      obtain ⟨hpAB, hiAB, hjAB⟩ := split_facts hp hAB hA
      have hR' : ∀ j, j ∈ A ++ B ↔ (j < G.size ∧ ((listed.setIfInBounds i true).getD j false = false ∨ j = p)) := by
        intro j
        rw [hset_of (by omega), hjAB j, hR j]
        by_cases e : j = i
        · subst e; simp [hip]
        · simp [e]
      have hdown' := hdown_set (by omega) ho hall hdown
      have hsz' : (listed.setIfInBounds i true).size = G.size := by simp [hsz]
      have hpAB' : p ∈ A ++ B := (hjAB p).2 ⟨hpR, fun e => hip e.symm⟩
      have hlp' : (listed.setIfInBounds i true).getD p false = true := by rw [hset_of (by omega), if_neg (fun e => hip e.symm)]; exact hlp
      have hmask : upd s.t d .any = putA s.t (some d) .any := rfl
      have hwm : wantedA G o (upd s.t d .any) = wantedA G o s.t := wantedA_putA (d := some d) fun e he => by cases he; exact hdo.2
      have hem : ∀ x ∈ o.op.operands, ev (upd s.t d .any) x = ev s.t x := evs_putA (d := some d) (G := G) fun e he => by cases he; exact hdo.2
      have hdk : ∀ e, o.dst = some e → e < k := fun e he => by unfold dstOk at hd2; rw [he] at hd2; simpa using hd2
      rw [hlen]
      unfold wpOpIn
      simp only [ho]
      rcases hstep with ⟨hw, h⟩ | ⟨hw, v, H', n', c, hc, hd, _, h⟩
      · rw [if_neg (by rw [wanted_sound lat.t (hwm.trans hw)]; simp)]
        have lat' := lat.step (Ext.refl E) lat.H lat.xb lat.N (dst := o.dst) (v := .tup []) (z := undef) rep_undef hdo.1 hdk (hqo _)
        refine ⟨fun _ _ => trivial, ?_⟩
        exact ih2 (A ++ B) (by have := congrArg List.length hAB; simp at this ⊢; omega) C _ E0 E b f cs ty _ s' _ Q hpAB hsz' hpAB' hlp' hR' hdown' h lat' hQ
      · rw [if_pos (wanted_sound lat.t (hwm.trans hw))]
        refine ((hd.move hem).ok C.ro E k a _ Q lat.m.loop lat.H lat.xb lat.N lat.t fun E' z q1 q2 q3 q4 q5 => ?_)
        have lat' := lat.step q1 q2 q3 q4 (dst := o.dst) q5 hdo.1 hdk (hqo _)
        exact ih2 (A ++ B) (by have := congrArg List.length hAB; simp at this ⊢; omega) C _ E0 E' b f cs ty _ s' _ Q hpAB hsz' hpAB' hlp' hR' hdown' h lat' hQ
theorem semD_new {k : Nat} {G : Array Oper} {cl : List Cls} {p : Nat} {oq : Oper} (hoq : G[p]? = some oq) (hop : lateOp oq.op = true) (hgd : oq.guard = none) : ∀ {A B : List Nat} {s s' : St}, (∀ x ∈ A, ∀ o, G[x]? = some o → ∀ e, o.dst = some e → e ∉ oq.looksAt G) → SemD P T k G cl (A ++ p :: B) s s' →
    ∃ f cs ty, newOf T s.t oq.op = some (f, cs, ty)
  | [], B, s, s', _, h => by
    obtain ⟨o, ho, _, hstep⟩ := h
    rw [hoq] at ho; cases ho
    have hw : wantedA G oq s.t = some true := by unfold wantedA; rw [hgd]
    rcases hstep with ⟨hw', _⟩ | ⟨_, v, H', n', c, hc, _, hae, h⟩
    · rw [hw] at hw'; cases hw'
    · obtain ⟨f, cs, ty, h1, _⟩ := hae hop
      exact ⟨f, cs, ty, h1⟩
  | x :: A, B, s, s', hA, h => by
    obtain ⟨o, ho, _, hstep⟩ := h
    have hq : ∀ v, ∀ y ∈ oq.op.operands, ev (putA s.t o.dst v) y = ev s.t y := fun v => evs_putA (hA x (by simp) o ho)
    rcases hstep with ⟨_, h⟩ | ⟨_, v, H', n', c, hc, _, hae, h⟩
    · obtain ⟨f, cs, ty, h1⟩ := semD_new hoq hop hgd (A := A) (B := B) (fun y hy => hA y (by simp [hy])) h
      exact ⟨f, cs, ty, (newOf_congr (hq _)).symm.trans h1⟩
    · obtain ⟨f, cs, ty, h1⟩ := semD_new hoq hop hgd (A := A) (B := B) (fun y hy => hA y (by simp [hy])) h
      exact ⟨f, cs, ty, (newOf_congr (hq _)).symm.trans h1⟩

theorem any_step (hT : TOk P T) {k : Nat} {G : Array Oper} {cl : List Cls} {q : Option Nat} (hok : drawOk G cl q = true) (hlate : lateOk T G q = true) {R : List Nat} (ih1 : ∀ R', R'.length < R.length → AnyP P T k G cl R')
    (ih2 : ∀ p d oq, q = some p → G[p]? = some oq → lateOp oq.op = true → oq.dst = some d → oq.guard = none → OneP P T k G cl p d oq R) : AnyP P T k G cl R := by
  intro C listed E s s' a Q hp hsz hR hdown hs hg hQ
  match R, ih1, ih2, hp, hR, hs with
  | [], _, _, hp, hR, hs =>
    simp only [SemD] at hs
    subst hs
    refine ⟨?_, hQ E a (Ext.refl _) hg⟩
    apply List.eq_nil_iff_forall_not_mem.2
    intro i hi
    obtain ⟨o, h1, h2, h3, _⟩ := of_ready hsz hi
    have := (hR i).2 ⟨h2, h3⟩
    simp at this
  | r :: R, ih1, ih2, hp, hR, hs =>
    have hr := (hR r).1 (by simp)
    refine ⟨fun h0 => ?_, fun i hi => ?_⟩
    · exfalso
      have : r ∈ Region.ready .any G listed := by
        refine ready_of hsz hr.1 hr.2 fun e he hb => ?_
        have hlt := (hokr_of hok (i := r) (o := G[r]'hr.1) (by simp [hr.1])).1 e he hb
        cases hl : listed.getD e.on false with
        | true => rfl
        | false =>
          have hm := (hR e.on).2 ⟨by omega, hl⟩
          rcases List.mem_cons.1 hm with h' | h'
          · omega
          · have := (List.pairwise_cons.1 hp).1 _ h'; omega
      rw [h0] at this
      simp at this
    · obtain ⟨o, ho, hilt, hlf, hall⟩ := of_ready hsz hi
      have him : i ∈ r :: R := (hR i).2 ⟨hilt, hlf⟩
      show wpOpIn (FR C.ro) 0 P G Q i (wpAnyIn (FR C.ro) 0 P .any G Q R.length (listed.setIfInBounds i true)) a E.w
      by_cases hiq : q = some i
      · -- the late one, early
        subst hiq
        have hlate' := hlate
        simp only [lateOk, ho] at hlate
        obtain ⟨d, hod, hop, hgd⟩ : ∃ d, o.dst = some d ∧ lateOp o.op = true ∧ o.guard = none := by
          split at hlate
          · rename_i d h2 h3; exact ⟨d, h2, hlate, h3⟩
          · cases hlate
        obtain ⟨A, B, hAB, hA⟩ := mem_split him hp
        obtain ⟨f, cs, ty, hnew⟩ := semD_new (A := A) (B := B) (s := s) (s' := s') ho hop hgd (fun x hx ox hox => by
          have hbm : x ∈ r :: R := by rw [hAB]; simp [hx]
          have hbf := ((hR x).1 hbm).2
          have hpk := (hokr_of hok ho).2 x (hA x hx)
          unfold pairOk at hpk
          rw [if_neg (fun e => by cases e; have := hA i hx; omega), if_pos rfl, Bool.or_eq_true] at hpk
          rcases hpk with h | h
          · exfalso
            have := waits_listed hdown _ x i o ho hall h
            rw [hbf] at this; cases this
          · unfold apartB at h
            rw [hox, ho] at h
            exact (Oper.apart_spec h).1) (hAB ▸ hs)
        obtain ⟨cells, info, z, hrun, hrep, h1, hval⟩ := new_run hT hg.t hnew
        unfold wpOpIn
        simp only [ho]
        rw [if_pos (by unfold Region.wanted; rw [hgd])]
        refine ⟨fun _ _ => trivial, ?_⟩
        rw [Oper.semAt_eq _ _ _ (fun c e => by rw [e] at hop; cases hop), hrun, Oper.uponIn_value, hod]
        have hdk : d < k := semD_dst ho hod him hs
        let E1 : Env := ⟨fun x => E.X x ∨ x = E.w.heap.size, E.N, E.m, pushW E.w (.cells cells ty)⟩
        have hsz1 : E1.w.heap.size = E.w.heap.size + 1 := by simp [E1, pushW]
        have rx : Rx E E1 := by
          refine ⟨Nat.le_refl _, fun i l _ hl => hl, fun b hb hsh => ⟨⟨fun e => ?_, hsh.2⟩, push_old hb⟩⟩
          rcases e with e | e
          · exact hsh.1 e
          · omega
        have lat : Lat P T C o d E.w.heap.size f cs ty E E1 s k (a.put (some d) z) := by
          refine ⟨⟨fun j blk hb => ?_, fun j l hl => ?_, hg.H.inj⟩, rfl, fun b hb => ?_, fun hx => ?_, hg.N, ?_, hnew, ⟨cells, info, push_new, RepL.rx rx _ _ hrep, h1, ?_⟩, Nat.le_refl _, ?_, ?_⟩
          · obtain ⟨l, hl, hb⟩ := hg.H.own j blk hb
            exact ⟨l, hl, RepB.rx rx (push_old (hg.H.lt j l hl).2.1) hb⟩
          · obtain ⟨g1, g2, g3, g4⟩ := hg.H.lt j l hl
            refine ⟨g1, by rw [hsz1]; omega, fun e => ?_, g4⟩
            rcases e with e | e
            · exact g3 e
            · omega
          · rw [hsz1]
            rcases hb with hb | hb
            · have := hg.X b hb; omega
            · omega
          · have := hg.X _ hx; omega
          · have : RepT E1 k s.t a := ⟨hg.t.size, fun x => RepV.rx rx _ _ (hg.t.at_ x)⟩
            exact this.put hdk (by simp [RepV])
          · have e1 : (a.put (some d) z).tmps.getD d undef = z := by
              simp only [Act.put, Array.getD_eq_getD_getElem?]
              rw [Array.getElem?_setIfInBounds_self_of_lt (by rw [hg.t.size]; exact hdk)]
              rfl
            rw [e1]; exact hval
          · exact ⟨rfl, Nat.le_refl _, rfl, rfl, rfl, by show E.w.heap.size ≤ E1.w.heap.size; omega, fun b hb _ => push_old hb, fun i l _ hl => hl, fun i l hl => .inr ⟨i, l, hl, rfl⟩, fun b r hb => ⟨r, (push_old (lt_of_block hb)).trans hb⟩⟩
          · rw [put_defers]
            refine ⟨fun l e => ?_, by have := hg.m.B; omega, hg.m.nd, fun dd hdd => ?_⟩
            · obtain ⟨r, hr⟩ := hg.m.loop l e
              exact ⟨r, (push_old (lt_of_block hr)).trans hr⟩
            · obtain ⟨b', e1, e2, e3, e4⟩ := hg.m.marks dd hdd
              exact ⟨b', e1, e2, e3, (push_old (lt_of_block e4)).trans e4⟩
        have := ih2 i d o rfl ho hop hod hgd C (listed.setIfInBounds i true) E E1 E.w.heap.size f cs ty s s' _ Q hp (by simp [hsz]) him (by rw [hset_of (by omega)]; simp)
          (fun j => by
            rw [hset_of (by omega), hR j]
            by_cases e : j = i
            · subst e; simp [hilt, hlf]
            · simp [e])
          (hdown_set (by omega) ho hall hdown) hs lat hQ
        exact this
      · obtain ⟨A, B, hAB, hA⟩ := mem_split him hp
        have hind : ∀ b ∈ A, indep G cl b i = true := by
          intro b hb
          have hbm : b ∈ r :: R := by rw [hAB]; simp [hb]
          have hbf := ((hR b).1 hbm).2
          have key : waits G G.size b i = true → False := by
            intro h
            have := waits_listed hdown _ b i o ho hall h
            rw [hbf] at this; cases this
          have hpk := (hokr_of hok ho).2 b (hA b hb)
          unfold pairOk at hpk
          split at hpk
          · rw [Bool.or_eq_true] at hpk
            rcases hpk with h | h
            · exact h
            · unfold barrier at h
              rw [Bool.and_eq_true] at h
              rename_i hqb
              cases hqb
              exact (key h.1).elim
          · first | rw [if_neg hiq, Bool.or_eq_true] at hpk | rw [Bool.or_eq_true] at hpk
            rcases hpk with h | h
            · exact h
            · exact (key h).elim
        have hs2 := semD_front hind s s' (hAB ▸ hs)
        obtain ⟨o2, ho2, hd2, hstep⟩ := hs2
        rw [ho] at ho2; cases ho2
        have hlen : R.length = (A ++ B).length := by
          have := congrArg List.length hAB
          simp at this ⊢
          omega
        obtain ⟨hpAB, hiAB, hjAB⟩ := split_facts hp hAB hA
        have hR' : ∀ j, j ∈ A ++ B ↔ (j < G.size ∧ (listed.setIfInBounds i true).getD j false = false) := by
          intro j
          rw [hset_of (by omega), hjAB j, hR j]
          by_cases e : j = i <;> simp [e]
        have hdown' := hdown_set (by omega) ho hall hdown
        have hsz' : (listed.setIfInBounds i true).size = G.size := by simp [hsz]
        rw [hlen]
        unfold wpOpIn
        simp only [ho]
        rcases hstep with ⟨hw, h⟩ | ⟨hw, v, H', n', c, hc, hd, _, h⟩
        · rw [if_neg (by rw [wanted_sound hg.t hw]; simp)]
          refine ⟨fun _ _ => trivial, ?_⟩
          exact ih1 (A ++ B) (by rw [← hlen]; simp) C _ E _ s' _ Q hpAB hsz' hR' hdown' h ⟨hg.H, hg.X, hg.N, putA_rep hg.t hd2 rep_undef, by rw [put_defers]; exact hg.m⟩ hQ
        · rw [if_pos (wanted_sound hg.t hw)]
          refine (hd.ok C.ro E k a _ Q hg.m.loop hg.H hg.X hg.N hg.t fun E' z q1 q2 q3 q4 q5 => ?_)
          exact ih1 (A ++ B) (by rw [← hlen]; simp) C _ E' _ s' _ Q hpAB hsz' hR' hdown' h ⟨q2, q3, q4, putA_rep (hg.t.ext q1) hd2 q5, by rw [put_defers]; exact hg.m.ext q1⟩ fun E'' a'' r1 r2 => hQ E'' a'' (q1.trans r1) r2

theorem semD_both (hT : TOk P T) {k : Nat} {G : Array Oper} {cl : List Cls} {q : Option Nat} (hok : drawOk G cl q = true) (hlate : lateOk T G q = true) : ∀ (n : Nat) (R : List Nat), R.length < n →
    AnyP P T k G cl R ∧ ∀ p d oq, q = some p → G[p]? = some oq → lateOp oq.op = true → oq.dst = some d → oq.guard = none → OneP P T k G cl p d oq R
  | 0, _, h => absurd h (Nat.not_lt_zero _)
  | n + 1, R, h => by
    have one : ∀ p d oq, q = some p → G[p]? = some oq → lateOp oq.op = true → oq.dst = some d → oq.guard = none → OneP P T k G cl p d oq R := by
      intro p d oq e1 e2 e3 e4 e5
      cases R with
      | nil => intro C listed E0 E b f cs ty s s' a Q hp hsz hpR; simp at hpR
      | cons r R => exact one_step hok e1 e2 e3 e4 e5 (fun R' hl => (semD_both hT hok hlate n R' (by omega)).1) (fun R' hl => (semD_both hT hok hlate n R' (by omega)).2 p d oq e1 e2 e3 e4 e5)
    exact ⟨any_step hT hok hlate (fun R' hl => (semD_both hT hok hlate n R' (by omega)).1) one, one⟩

theorem semD_any (hT : TOk P T) {k : Nat} {G : Array Oper} {cl : List Cls} {q : Option Nat} (hok : drawOk G cl q = true) (hlate : lateOk T G q = true) (R : List Nat) : AnyP P T k G cl R :=
  (semD_both hT hok hlate (R.length + 1) R (Nat.lt_succ_self _)).1

end
end Go.Proofs.YtcdafogfmijcpaaW.Ah
