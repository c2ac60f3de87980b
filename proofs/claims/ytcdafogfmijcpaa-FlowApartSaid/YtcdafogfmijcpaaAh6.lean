/-
  Composite values, slice expressions, lengths.
-/
import Derived.Test.YtcdafogfmijcpaaAh5
namespace Go.Proofs.YtcdafogfmijcpaaW.Ah
set_option linter.unusedVariables false
set_option linter.unusedSimpArgs false
section
variable {P : Program} {T : Tab} {E : Env} {H : Nat → Option Blk} {k : Nat} {t : Nat → AV} {a : Act} {r : AV}

theorem rep_scs {E : Env} (l : List Value) : RepL E (l.map .sc) l := by
  induction l with
  | nil => simp [RepL]
  | cons v l ih => simp [RepL, RepV, ih]

theorem rep_zs {E : Env} (l : List Value) : RepL E (l.map zs) l := by
  induction l with
  | nil => simp [RepL]
  | cons v l ih =>
    simp only [List.map_cons, RepL]
    refine ⟨?_, ih⟩
    unfold zs
    split
    · simp only [RepV]
      exact .inr ⟨trivial, trivial, none, 0, rfl, (fun hf => by cases hf), fun _ => rfl⟩
    · simp [RepV]

theorem run_places (hT : TOk P T) (w : World) : ∀ (fs : List Field), (fs.map fun f => (f.offset, f.type)).all (fun f => (sizeT T f.2).isSome) = true →
    (fs.mapM fun f => Prod.mk f.offset <$> sizeOf f.type).run P w = .ok (fs.map fun f => (f.offset, (sizeT T f.type).getD 0)) w
  | [], _ => rfl
  | f :: fs, h => by
    simp only [List.map_cons, List.all_cons, Bool.and_eq_true] at h
    obtain ⟨h1, h2⟩ := h
    unfold sizeT at h1
    cases ht : T f.type with
    | none => rw [ht] at h1; simp at h1
    | some i =>
      rw [List.mapM_cons]
      simp only [Sem.run_bind, Sem.run_map, (hT.row ht).size w, Result.andThen_ok, run_places hT w fs h2]
      simp [sizeT, ht]

theorem parts_rep (hr : RepT E k t a) (parts : Array (Nat × Operand)) :
    (parts.toList.map fun p => (p.1, ev t p.2)).length = (parts.map fun (i, x) => (i, a.eval x)).toList.length ∧
    ∀ (j : Nat) (x : Nat × AV) (v : Nat × Value), (parts.toList.map fun p => (p.1, ev t p.2))[j]? = some x → (parts.map fun (i, x) => (i, a.eval x)).toList[j]? = some v → x.1 = v.1 ∧ RepV E x.2 v.2 := by
  refine ⟨by simp, fun j x v hx hv => ?_⟩
  rw [Array.toList_map] at hv
  simp only [List.getElem?_map, Option.map_eq_some_iff] at hx hv
  obtain ⟨p, hp, rfl⟩ := hx
  obtain ⟨q, hq, rfl⟩ := hv
  rw [hp] at hq
  cases hq
  exact ⟨rfl, hr.ev _⟩

theorem yv_build (hT : TOk P T) (hr : RepT E k t a) {o : Oper} {ty : TypeId} {parts : Array (Nat × Operand)} (ho : o.op = .build ty parts) (h : vop T t H (.build ty parts) = some r) : Yv P E a o r := by
  simp only [vop] at h
  obtain ⟨hpl, hpr⟩ := parts_rep hr parts
  split at h
  case h_2 => cases h
  case h_1 i hi =>
    obtain ⟨info, z, hinf, _, _, hz, hzz⟩ := (hT.row hi).info
    have hc0 : RepL E (i.zero.map zs) z.cells.toList := by rw [hzz]; exact rep_zs _
    have hl0 : (i.zero.map zs).length = z.cells.size := by rw [← hzz]; simp
    have hc1 : RepL E (zb i) z.cells.toList := by
      unfold zb
      split
      · rw [hzz]; exact rep_scs _
      · exact hc0
    have hl1 : (zb i).length = z.cells.size := by
      unfold zb
      split
      · rw [← hzz]; simp
      · exact hl0
    split at h
    case h_3 => cases h
    case h_1 fs hk =>
      obtain ⟨fs', hu, hfs⟩ := (hT.row hi).struct hk
      split at h
      case isFalse => cases h
      case isTrue hall =>
        simp only [Option.map_eq_some_iff] at h
        obtain ⟨cs, hf, rfl⟩ := h
        obtain ⟨out, ho1, ho2, ho3⟩ := run_fill (vs := (parts.map fun (i, x) => (i, a.eval x)).toList) hpl hpr hc1 hl1 hf
        refine ⟨.agg out, ?_, by simp only [RepV]; exact ⟨out, rfl, by simpa using ho3, ho2⟩⟩
        unfold execOp; rw [ho]
        rw [← hfs] at hall
        have hp := run_places hT E.w fs'.toList hall
        have ho1' : Instr.fill (fun j => (fs'.toList.map fun f => (f.offset, (sizeT T f.type).getD 0))[j]?) z.cells (parts.map fun (i, x) => (i, a.eval x)).toList = some out := by
          rw [← ho1]
          congr 1
          funext j
          rw [← hfs]
          simp only [List.getElem?_map]
          cases hj : fs'.toList[j]? with
          | none => rfl
          | some g =>
            have := List.all_eq_true.1 hall (g.offset, g.type) (List.mem_map.2 ⟨g, List.mem_of_getElem? hj, rfl⟩)
            simp only at this
            cases hs : sizeT T g.type with
            | none => rw [hs] at this; simp at this
            | some z => simp [hs]
        simp [Instr.build, run_zero hinf hz, run_under hu, Array.mapM_eq_mapM_toList, hp]
        simp at ho1'
        rw [ho1']
        rfl
    case h_2 n e hk =>
      split at h
      case h_2 => cases h
      case h_1 zz hzz' =>
        simp only [Option.map_eq_some_iff] at h
        obtain ⟨cs, hf, rfl⟩ := h
        obtain ⟨out, ho1, ho2, ho3⟩ := run_fill (vs := (parts.map fun (i, x) => (i, a.eval x)).toList) hpl hpr hc0 hl0 hf
        unfold sizeT at hzz'
        cases he : T e with
        | none => rw [he] at hzz'; cases hzz'
        | some ie =>
          rw [he] at hzz'; simp at hzz'
          refine ⟨.agg out, ?_, by simp only [RepV]; exact ⟨out, rfl, by simpa using ho3, ho2⟩⟩
          unfold execOp; rw [ho]
          simp [Instr.build, run_zero hinf hz, run_under ((hT.row hi).arr hk), (hT.row he).size, hzz']
          simp at ho1
          rw [ho1]
          rfl

theorem yv_slice (hT : TOk P T) (hH : RepH P E H) (hr : RepT E k t a) {o : Oper} {s : TypeId} {x : Operand} {lo hi mx : Option Operand} (ho : o.op = .slice s x lo hi mx) (h : vop T t H (.slice s x lo hi mx) = some r) : Yv P E a o r := by
  simp only [vop] at h
  have hx := hr.ev x
  have hlo := hr.evO lo
  have hhi := hr.evO hi
  have hmx := hr.evO mx
  split at h
  case h_2 => cases h
  case h_1 i hi' =>
    have row := hT.row hi'
    split at h
    case h_8 => cases h
    case h_1 s hk e =>
      cases mx with
      | some m => simp at h
      | none =>
        simp only at h
        split at h
        case h_2 => cases h
        case h_1 hh hhh =>
          split at h
          case h_2 => cases h
          case h_1 l hl =>
            cases h
            rw [e] at hx
            have e' := RepV.sc_inv hx
            obtain ⟨m, hb, _⟩ := run_bounds (P := P) (n := s.size) (lim := s.size) (cap := s.size) (c := none) (c' := none) (l := l) (h := hh) (mx := none) (vmx := none) hlo hhi (by simp [RepO]) (by unfold bounds; simp [hhh, hl]) (Nat.le_refl _) (Nat.le_refl _) (fun _ h => by cases h) false E.w
            refine ⟨_, ?_, rep_sc _⟩
            unfold execOp; rw [ho]
            simp [e', Instr.sliceAt, Instr.slice, run_under (row.str hk), hb]
    case h_2 e' i' o' n c hk e =>
      split at h
      case h_2 => cases h
      case h_1 z hz =>
        split at h
        case isFalse => cases h
        case isTrue hnat =>
        split at h
        case h_2 => cases h
        case h_1 l hh c' hb =>
          unfold sizeT at hz
          cases he : T e' with
          | none => rw [he] at hz; cases hz
          | some ie =>
            rw [he] at hz; simp at hz
            rw [e] at hx
            have hx0 := hx
            simp only [RepV] at hx
            obtain ⟨hN, b, cap, ex, hcap, hcc, hm⟩ := hx
            have hlim : limOf H e' z i' o' n c ≤ cap := by
              unfold limOf
              cases c with
              | some c => have := hcc c rfl; simp; omega
              | none =>
                simp only
                split
                · rename_i cs ty hcs
                  split
                  · rename_i hty
                    obtain ⟨l', hl', cells, fz, info, q1, q2, q3, q4, q5, q6⟩ := hH.own i' _ hcs
                    obtain ⟨_, hr2⟩ := hm l' hl'
                    have h3 := hr2 rfl
                    have h4 := q2.length
                    simp only [Array.length_toList] at h4
                    subst hty
                    obtain ⟨info', _, g1, g2, _⟩ := (hT.row he).info
                    rw [q5] at g1; cases g1
                    refine Nat.max_le.2 ⟨hcap, ?_⟩
                    rcases Nat.eq_zero_or_pos z with h0 | h0
                    · rw [h0]; simp
                    · rw [Nat.div_le_iff_le_mul_add_pred h0]
                      have : l'.z = z := by omega
                      rw [this, Nat.mul_comm] at h3
                      omega
                  · exact hcap
                · exact hcap
            obtain ⟨m, hb', hlh, hhl, hhm, hmc, hk1, hk2⟩ := run_bounds (P := P) (cap := cap) hlo hhi hmx hb (by
              unfold limOf
              cases c with
              | some c => have := hcc c rfl; simp; omega
              | none =>
                simp only
                split
                · split <;> omega
                · omega) hlim hcc true E.w
            have key : (execOp a.eval o).run P E.w = .ok (.value (.slice (some (if m = l then ⟨b, o', none⟩ else ⟨b, o' + l * z, none⟩)) (hh - l) (m - l))) E.w := by
              unfold execOp; rw [ho]
              simp only [ex, Instr.sliceAt, Instr.slice, Sem.run_bind, run_under (row.slice hk), hb', (hT.row he).size, hz, Result.andThen_ok, Option.map_some, addr_add, Sem.run_pure]
              split <;> rfl
            refine ⟨_, key, ?_⟩
            split at h
            · rename_i hc
              cases h
              have hadr : (if m = l then (⟨b, o', none⟩ : Addr) else ⟨b, o' + l * z, none⟩) = ⟨b, o' + l * z, none⟩ := by
                split
                · rename_i hml
                  rcases hc with h0 | h0
                  · subst h0; simp
                  · omega
                · rfl
              rw [hadr]
              simp only [RepV]
              refine ⟨hN, b, m - l, rfl, by omega, fun q hq => hk1 q hq, fun l' hl' => ⟨(hm l' hl').1, fun hn => ?_⟩⟩
              obtain ⟨rfl, hcn, _⟩ := hk2 hn
              have h3 := (hm l' hl').2 hcn
              subst hcn
              simp only [natOk] at hnat
              split at hnat
              · rename_i cs ty hcs
                simp only [beq_iff_eq] at hnat
                subst hnat
                obtain ⟨l'', hl'', cells, fz, info, q1, q2, q3, q4, q5, q6⟩ := hH.own i' _ hcs
                rw [hl'] at hl''; cases hl''
                obtain ⟨info', _, g1, g2, _⟩ := (hT.row he).info
                rw [q5] at g1; cases g1
                have e3 : l'.z = z := by omega
                rw [e3] at h3 ⊢
                have hz' : l * z ≤ m * z := Nat.mul_le_mul_right _ (by omega)
                rw [Nat.sub_mul]
                omega
              · cases hnat
            · rename_i hc
              cases h
              have h0 : hh - l = 0 := by omega
              rw [h0]
              simp only [RepV]
              refine ⟨_, _, rfl, fun hq => ?_⟩
              simp at hq
              exact hk1 0 hq
    case h_3 e' cs n full hk e =>
      split at h
      case h_2 => cases h
      case h_1 z l hh c' hz hb =>
        unfold sizeT at hz
        cases he : T e' with
        | none => rw [he] at hz; cases hz
        | some ie =>
          rw [he] at hz; simp at hz
          rw [e] at hx
          simp only [RepV] at hx
          rcases hx with ⟨b, o', cells, ty, fz, cap, ex, hcap, hfull, hs, hbk, hl⟩ | ⟨rfl, rfl, ad, cap, ex, hfull, hnil⟩
          case inr =>
            obtain ⟨m, hb', hlh, hhl, hhm, hmc, hk1, hk2⟩ := run_bounds (P := P) (cap := cap) hlo hhi hmx hb (Nat.le_refl _) (Nat.zero_le _) (by intro q hq; split at hq <;> simp_all) true E.w
            obtain rfl : hh = 0 := by omega
            obtain rfl : l = 0 := by omega
            cases h
            refine ⟨.slice ad 0 m, ?_, ?_⟩
            · unfold execOp; rw [ho]
              simp only [ex, Instr.sliceAt, Instr.slice, Sem.run_bind, run_under (row.slice hk), hb', (hT.row he).size, Result.andThen_ok, Sem.run_pure]
              cases ad with
              | none => split <;> simp
              | some ad => split <;> simp [Addr.add]
            · simp only [RepV]
              exact .inr ⟨trivial, by simp, ad, m, rfl, (fun hq => by simp at hq; have := hk1 0 hq; omega), fun hq => by have := hnil hq; omega⟩
          obtain ⟨m, hb', hlh, hhl, hhm, hmc, hk1, hk2⟩ := run_bounds (P := P) (cap := cap) hlo hhi hmx hb (Nat.le_refl _) hcap (by intro q hq; split at hq <;> simp_all) true E.w
          have key : (execOp a.eval o).run P E.w = .ok (.value (.slice (some (if m = l then ⟨b, o', none⟩ else ⟨b, o' + l * z, none⟩)) (hh - l) (m - l))) E.w := by
            unfold execOp; rw [ho]
            simp only [ex, Instr.sliceAt, Instr.slice, Sem.run_bind, run_under (row.slice hk), hb', (hT.row he).size, hz, Result.andThen_ok, Option.map_some, addr_add, Sem.run_pure]
            split <;> rfl
          refine ⟨_, key, ?_⟩
          cases h
          by_cases hc : l = 0 ∨ l < hh
          · have hadr : (if m = l then (⟨b, o', none⟩ : Addr) else ⟨b, o' + l * z, none⟩) = ⟨b, o' + l * z, none⟩ := by
              split
              · rename_i hml
                rcases hc with h0 | h0
                · subst h0; simp
                · omega
              · rfl
            rw [hadr]
            simp only [RepV]
            refine .inl ⟨b, _, cells, ty, fz, m - l, rfl, by omega, fun hq => ?_, hs, hbk, ?_⟩
            · simp at hq
              exact hk1 _ hq
            · have := hl.drop (l * z)
              rw [List.drop_drop] at this
              exact this.of_take _
          · have h0 : hh - l = 0 := by omega
            rw [h0]
            simp only [RepV]
            refine .inr ⟨trivial, by simp, some _, _, rfl, fun hq => ?_, fun hq => by cases hq⟩
            simp at hq
            exact hk1 0 hq
    case h_4 e' hk e =>
      split at h
      case h_2 => cases h
      case h_1 z b hz hb =>
        cases h
        unfold sizeT at hz
        cases he : T e' with
        | none => rw [he] at hz; cases hz
        | some ie =>
          obtain ⟨l, hh, c'⟩ := b
          rw [e] at hx
          have ex := RepV.sc_inv hx
          obtain ⟨m, hb', hlh, hhl, hhm, hmc, hk1, hk2⟩ := run_bounds (P := P) (cap := 0) hlo hhi hmx hb (Nat.le_refl _) (Nat.le_refl _) (by intro q hq; simp at hq; exact hq) true E.w
          obtain rfl : m = 0 := by omega
          obtain rfl : hh = 0 := by omega
          obtain rfl : l = 0 := by omega
          refine ⟨_, ?_, rep_sc _⟩
          unfold execOp; rw [ho]
          simp [ex, Instr.sliceAt, Instr.slice, run_under (row.slice hk), hb', (hT.row he).size]
    case h_5 e' full hk e =>
      split at h
      case h_2 => cases h
      case h_1 z l hh c' hz hb =>
        cases h
        unfold sizeT at hz
        cases he : T e' with
        | none => rw [he] at hz; cases hz
        | some ie =>
          rw [e] at hx
          simp only [RepV] at hx
          obtain ⟨ad, cap, ex, hf⟩ := hx
          obtain ⟨m, hb', hlh, hhl, hhm, hmc, hk1, hk2⟩ := run_bounds (P := P) (cap := cap) hlo hhi hmx hb (Nat.le_refl _) (Nat.zero_le _) (by intro q hq; split at hq <;> simp_all) true E.w
          obtain rfl : hh = 0 := by omega
          obtain rfl : l = 0 := by omega
          refine ⟨.slice (some ad) 0 m, ?_, ?_⟩
          · unfold execOp; rw [ho]
            simp only [ex, Instr.sliceAt, Instr.slice, Sem.run_bind, run_under (row.slice hk), hb', (hT.row he).size, Result.andThen_ok, Option.map_some, Sem.run_pure]
            split <;> simp [Addr.add]
          · simp only [RepV]
            exact ⟨ad, m, rfl, fun hq => by simp at hq; have := hk1 0 hq; omega⟩
    case h_6 n e' i' o' hk e =>
      split at h
      case h_2 => cases h
      case h_1 z l hh c' hz hb =>
        unfold sizeT at hz
        cases he : T e' with
        | none => rw [he] at hz; cases hz
        | some ie =>
          rw [he] at hz; simp at hz
          rw [e] at hx
          simp only [RepV] at hx
          obtain ⟨hN, b, ex, hm⟩ := hx
          obtain ⟨m, hb', hlh, hhl, hhm, hmc, hk1, hk2⟩ := run_bounds (P := P) (cap := n) hlo hhi hmx hb (Nat.le_refl _) (Nat.le_refl _) (by intro q hq; simp at hq; exact hq) false E.w
          have key : (execOp a.eval o).run P E.w = .ok (.value (.slice (some (if m = l then ⟨b, o', none⟩ else ⟨b, o' + l * z, none⟩)) (hh - l) (m - l))) E.w := by
            unfold execOp; rw [ho]
            simp only [ex, Instr.sliceAt, Instr.sureAddr, Sem.run_bind, Sem.run_pure, run_under (row.arr hk), hb', (hT.row he).size, hz, Result.andThen_ok, Option.map_some, addr_add, Sem.run_pure]
          refine ⟨_, key, ?_⟩
          split at h
          · rename_i hc
            cases h
            have hadr : (if m = l then (⟨b, o', none⟩ : Addr) else ⟨b, o' + l * z, none⟩) = ⟨b, o' + l * z, none⟩ := by
              split
              · rename_i hml
                rcases hc with h0 | h0
                · subst h0; simp
                · omega
              · rfl
            rw [hadr]
            simp only [RepV]
            refine ⟨hN, b, m - l, rfl, by omega, fun q hq => hk1 q hq, fun l' hl' => ⟨hm l' hl', fun hn => ?_⟩⟩
            obtain ⟨_, hcn, _⟩ := hk2 hn
            cases hcn
          · rename_i hc
            cases h
            have h0 : hh - l = 0 := by omega
            rw [h0]
            simp only [RepV]
            refine ⟨_, _, rfl, fun hq => ?_⟩
            simp at hq
            exact hk1 0 hq
    case h_7 n e' cs hk e =>
      split at h
      case h_2 => cases h
      case h_1 z l hh c' hz hb =>
        unfold sizeT at hz
        cases he : T e' with
        | none => rw [he] at hz; cases hz
        | some ie =>
          rw [he] at hz; simp at hz
          rw [e] at hx
          simp only [RepV] at hx
          obtain ⟨b, o', cells, ty, fz, ex, hs, hbk, hl⟩ := hx
          obtain ⟨m, hb', hlh, hhl, hhm, hmc, hk1, hk2⟩ := run_bounds (P := P) (cap := n) hlo hhi hmx hb (Nat.le_refl _) (Nat.le_refl _) (by intro q hq; simp at hq; exact hq) false E.w
          have key : (execOp a.eval o).run P E.w = .ok (.value (.slice (some (if m = l then ⟨b, o', none⟩ else ⟨b, o' + l * z, none⟩)) (hh - l) (m - l))) E.w := by
            unfold execOp; rw [ho]
            simp only [ex, Instr.sliceAt, Instr.sureAddr, Sem.run_bind, Sem.run_pure, run_under (row.arr hk), hb', (hT.row he).size, hz, Result.andThen_ok, Option.map_some, addr_add, Sem.run_pure]
          refine ⟨_, key, ?_⟩
          split at h
          · rename_i hc
            cases h
            have hadr : (if m = l then (⟨b, o', none⟩ : Addr) else ⟨b, o' + l * z, none⟩) = ⟨b, o' + l * z, none⟩ := by
              split
              · rename_i hml
                rcases hc with h0 | h0
                · subst h0; simp
                · omega
              · rfl
            rw [hadr]
            simp only [RepV]
            refine .inl ⟨b, _, cells, ty, fz, m - l, rfl, by omega, fun hq => ?_, hs, hbk, ?_⟩
            · simp at hq
              exact hk1 _ hq
            · have := hl.drop (l * z)
              rw [List.drop_drop] at this
              exact this.of_take _
          · rename_i hc
            cases h
            have h0 : hh - l = 0 := by omega
            rw [h0]
            simp only [RepV]
            refine ⟨_, _, rfl, fun hq => ?_⟩
            simp at hq
            exact hk1 0 hq

theorem yv_len (hT : TOk P T) (hr : RepT E k t a) {o : Oper} {args : Array Operand} {ats : Array TypeId} (ho : o.op = .call { callee := .builtin .len, args, argTypes := ats })
    (h : vop T t H (.call { callee := .builtin .len, args, argTypes := ats }) = some r) : Yv P E a o r := by
  simp only [vop] at h
  split at h
  case h_2 => cases h
  case h_1 x ty e1 e2 =>
    obtain ⟨x', hx', rfl⟩ : ∃ x', args = #[x'] ∧ ev t x' = x := by
      obtain ⟨l⟩ := args
      match l, e1 with
      | [x'], e1 => simp at e1; exact ⟨x', rfl, e1⟩
    obtain rfl : ats = #[ty] := by
      obtain ⟨l⟩ := ats; simp at e2; rw [e2]
    subst hx'
    have hx := hr.ev x'
    split at h
    case h_2 => cases h
    case h_1 i hi =>
      have row := hT.row hi
      have key : ∀ z, (Builtin.len_ #[ty] o.type #[a.eval x']).run P E.w = .ok z E.w → (execOp a.eval o).run P E.w = .ok (.value z) E.w := by
        intro z hz
        unfold execOp; rw [ho]
        simp [resolve, invoke, builtin, hz]
      split at h
      case h_7 => cases h
      case h_1 s hk e => cases h; rw [e] at hx; refine ⟨_, key _ ?_, rep_sc _⟩; simp [Builtin.len_, RepV.sc_inv hx, run_under (row.str hk)]; rfl
      case h_2 e' i' o' n c hk e => cases h; rw [e] at hx; simp only [RepV] at hx; obtain ⟨_, b, cap, ex, _⟩ := hx; refine ⟨_, key _ ?_, rep_sc _⟩; simp [Builtin.len_, ex, run_under (row.slice hk)]; rfl
      case h_3 e' cs n full hk e => cases h; rw [e] at hx; obtain ⟨b, cap, ex, _⟩ := ssl_shape hx; refine ⟨_, key _ ?_, rep_sc _⟩; simp [Builtin.len_, ex, run_under (row.slice hk)]; rfl
      case h_4 e' full hk e => cases h; rw [e] at hx; simp only [RepV] at hx; obtain ⟨b, cap, ex, _⟩ := hx; refine ⟨_, key _ ?_, rep_sc _⟩; simp [Builtin.len_, ex, run_under (row.slice hk)]; rfl
      case h_5 e' hk e => cases h; rw [e] at hx; refine ⟨_, key _ ?_, rep_sc _⟩; simp [Builtin.len_, RepV.sc_inv hx, run_under (row.slice hk)]; rfl
      case h_6 n e' hk => cases h; refine ⟨_, key _ ?_, rep_sc _⟩; simp [Builtin.len_, run_under (row.arr hk)]; rfl

theorem two_args {args : Array Operand} {x y : AV} (e : args.toList.map (ev t) = [x, y]) : ∃ p q, args = #[p, q] ∧ ev t p = x ∧ ev t q = y := by
  obtain ⟨l⟩ := args
  match l, e with
  | [p, q], e => simp at e; exact ⟨p, q, rfl, e⟩

theorem yv_min (hr : RepT E k t a) {o : Oper} {args : Array Operand} {ats : Array TypeId} (ho : o.op = .call { callee := .builtin .min, args, argTypes := ats })
    (h : vop T t H (.call { callee := .builtin .min, args, argTypes := ats }) = some r) : Yv P E a o r := by
  simp only [vop] at h
  split at h
  case h_2 => cases h
  case h_1 q x q' y e =>
    cases h
    obtain ⟨p, p', rfl, e1, e2⟩ := two_args e
    have h1 := hr.ev p
    have h2 := hr.ev p'
    rw [e1] at h1; rw [e2] at h2
    refine ⟨_, ?_, rep_sc _⟩
    unfold execOp; rw [ho]
    simp [resolve, invoke, builtin, RepV.sc_inv h1, RepV.sc_inv h2, Builtin.min_, Builtin.min2]

theorem yv_max (hr : RepT E k t a) {o : Oper} {args : Array Operand} {ats : Array TypeId} (ho : o.op = .call { callee := .builtin .max, args, argTypes := ats })
    (h : vop T t H (.call { callee := .builtin .max, args, argTypes := ats }) = some r) : Yv P E a o r := by
  simp only [vop] at h
  split at h
  case h_2 => cases h
  case h_1 q x q' y e =>
    cases h
    obtain ⟨p, p', rfl, e1, e2⟩ := two_args e
    have h1 := hr.ev p
    have h2 := hr.ev p'
    rw [e1] at h1; rw [e2] at h2
    refine ⟨_, ?_, rep_sc _⟩
    unfold execOp; rw [ho]
    simp [resolve, invoke, builtin, RepV.sc_inv h1, RepV.sc_inv h2, Builtin.max_, Builtin.max2]

end
end Go.Proofs.YtcdafogfmijcpaaW.Ah
