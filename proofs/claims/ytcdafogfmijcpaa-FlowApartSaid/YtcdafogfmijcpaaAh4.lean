/-
  Operations that leave the memory as it is.
-/
import Derived.Test.YtcdafogfmijcpaaAh3
import Derived.Laws.BytesString
namespace Go.Proofs.YtcdafogfmijcpaaW.Ah
set_option linter.unusedVariables false
set_option linter.unusedSimpArgs false

theorem rep_sc {E : Env} (v : Value) : RepV E (.sc v) v := by simp only [RepV]

theorem run_unAV {P : Program} {E : Env} {op : UnOp} {x r : AV} {u : Value} (hx : RepV E x u) (h : unAV op x = some r) (w : World) : ∃ z, (Op.unary op u).run P w = .ok z w ∧ RepV E r z := by
  unfold unAV at h
  split at h
  · cases h; rw [RepV.sc_inv hx]; exact ⟨_, rfl, rep_sc _⟩
  · cases h; rw [RepV.sc_inv hx]; exact ⟨_, rfl, rep_sc _⟩
  · cases h; rw [RepV.sc_inv hx]; exact ⟨_, rfl, rep_sc _⟩
  · cases h

theorem u8s_rep {E : Env} : ∀ {cs : List AV} {ns : List Int} {vs : List Value}, u8s cs = some ns → RepL E cs vs → vs.length = cs.length → vs = ns.map (Value.int .u8)
  | [], ns, vs, h, hr, hl => by
    cases h
    exact List.length_eq_zero_iff.1 hl
  | c :: cs, ns, [], h, hr, hl => by simp at hl
  | c :: cs, ns, v :: vs, h, hr, hl => by
    unfold u8s at h
    split at h
    · next h0 => cases h0
    · next n r h0 =>
      cases h0
      cases hu : u8s cs with
      | none => rw [hu] at h; cases h
      | some ms =>
        rw [hu] at h
        cases h
        simp only [RepL, RepV] at hr
        rw [List.map_cons, ← u8s_rep hu hr.2 (by simpa using hl), hr.1]
    · cases h

theorem u8s_len : ∀ {cs : List AV} {ns : List Int}, u8s cs = some ns → cs.map (fun _ => ()) = ns.map (fun _ => ())
  | [], ns, h => by cases h; rfl
  | c :: cs, ns, h => by
    unfold u8s at h
    split at h
    · next h0 => cases h0
    · next n r h0 =>
      cases h0
      cases hu : u8s cs with
      | none => rw [hu] at h; cases h
      | some ms => rw [hu] at h; cases h; simp only [List.map_cons, u8s_len hu]
    · cases h

theorem isU8_row {P : Program} {T : Tab} (hT : TOk P T) {e : Nat} (h : isU8 T e = true) : P.underlying e = some (.int .u8) := by
  unfold isU8 at h
  cases he : T e with
  | none => rw [he] at h; cases h
  | some i =>
    rw [he] at h
    simp only at h
    split at h
    · next hk => exact (hT.row he).int hk
    · cases h

theorem run_convAV {P : Program} {T : Tab} (hT : TOk P T) {E : Env} {src dst : Nat} {x r : AV} {u : Value} (hx : RepV E x u) (h : convAV T src dst x = some r) :
    ∃ z, (convert src dst u).run P E.w = .ok z E.w ∧ RepV E r z := by
  unfold convAV at h
  cases hs : T src with
  | none => rw [hs] at h; cases h
  | some i =>
    cases hd : T dst with
    | none => rw [hs, hd] at h; cases h
    | some j =>
      rw [hs, hd] at h
      simp only at h
      obtain ⟨ds, hds, _, _⟩ := (hT.row hs).under
      split at h
      case h_1 k _ n hk => cases h; rw [RepV.sc_inv hx]; refine ⟨_, ?_, rep_sc _⟩; simp [convert, run_under hds, run_under ((hT.row hd).int hk), Conv.intToInt]
      case h_2 s hk1 hk2 => cases h; rw [RepV.sc_inv hx]; refine ⟨_, ?_, rep_sc _⟩; simp [convert, run_under hds, run_under ((hT.row hd).str hk2)]
      case h_3 e cs n f hk1 hk2 =>
        cases hu : u8s (cs.take n) with
        | none => rw [hu] at h; cases h
        | some ns =>
          rw [hu] at h
          simp only at h
          split at h
          · next hc =>
            cases h
            obtain ⟨hn, h8⟩ := hc
            refine ⟨.string (textOf ns), ?_, rep_sc _⟩
            obtain ⟨a, cap, rfl, _, _, ha⟩ := ssl_shape hx
            rw [run_convert_bytes_string E.w src dst e a n cap ((hT.row hs).slice hk1) (isU8_row hT h8) ((hT.row hd).str hk2)]
            by_cases h0 : n = 0
            · subst h0
              have : ns = [] := List.length_eq_zero_iff.1 hn
              subst this
              cases a with
              | none => simp [Conv.bytesToString, textOf]
              | some a => exact run_bytesToString E.w a 0 cap [] (by simp [loadCells, loadCellsFrom])
            · simp only [RepV] at hx
              rcases hx with ⟨b, o, cells, ty, fz, cap', e1, _, _, _, hb, hrl⟩ | ⟨h1, _⟩
              · cases e1
                have hlen := (RepL.iff.1 hrl).1
                have hnc : n ≤ cs.length := by
                  have := congrArg List.length (u8s_len hu)
                  simp only [List.length_map, List.length_take] at this
                  omega
                simp only [List.length_drop, Array.length_toList] at hlen
                refine run_bytesToString E.w _ n cap ns ?_
                rw [run_loadCells hb (by omega)]
                congr 1
                apply Array.toList_inj.1
                have hr2 : RepL E (cs.take n) ((cells.toList.drop o).take n) := by
                  rw [RepL.iff] at hrl ⊢
                  refine ⟨by simp; omega, fun i a hi => ?_⟩
                  rw [List.getElem?_take] at hi ⊢
                  split at hi
                  · next hlt => rw [if_pos hlt]; exact hrl.2 i a hi
                  · cases hi
                have := u8s_rep hu hr2 (by simp; omega)
                simp only [Array.toList_extract, List.extract_eq_take_drop]
                rw [show o + n - o = n by omega]
                simpa using this
              · exact absurd h1 h0
          · cases h
      case h_4 e hk1 hk2 =>
        split at h
        · next h8 =>
          cases h
          rw [RepV.sc_inv hx]
          refine ⟨.string (textOf []), ?_, rep_sc _⟩
          rw [run_convert_bytes_string E.w src dst e none 0 0 ((hT.row hs).slice hk1) (isU8_row hT h8) ((hT.row hd).str hk2)]
          simp [Conv.bytesToString, textOf]
        · cases h
      case h_5 => cases h

theorem zipIdx_fold (off : Nat) : ∀ (l : List Value) (j : Nat) (cs : Array Value), off + j + l.length ≤ cs.size →
    ((l.zipIdx j).foldl (fun cs (p : Value × Nat) => cs.setIfInBounds (off + p.2) p.1) cs).toList = cs.toList.take (off + j) ++ l ++ cs.toList.drop (off + j + l.length)
  | [], j, cs, _ => by simp
  | v :: l, j, cs, h => by
    simp only [List.length_cons] at h
    rw [List.zipIdx_cons, List.foldl_cons, zipIdx_fold off l (j + 1) _ (by simp; omega)]
    simp only [Array.toList_setIfInBounds, List.length_cons]
    rw [show off + (j + 1) = off + j + 1 by omega, show off + j + (l.length + 1) = off + j + 1 + l.length by omega]
    rw [List.drop_set_of_lt (by omega)]
    rw [List.take_set, List.take_succ_eq_append_getElem (by simp; omega), List.set_append_right _ _ (by simp; omega)]
    simp
    rw [show off + j - min (off + j) cs.size = 0 by omega]
    simp

theorem run_fill {E : Env} {place : Nat → Option (Nat × Nat)} : ∀ {parts : List (Nat × AV)} {cs r : List AV} {cells : Array Value} {vs : List (Nat × Value)},
    parts.length = vs.length → (∀ (j : Nat) (a : Nat × AV) (v : Nat × Value), parts[j]? = some a → vs[j]? = some v → a.1 = v.1 ∧ RepV E a.2 v.2) →
    RepL E cs cells.toList → cs.length = cells.size → fillAV place cs parts = some r → ∃ out, Instr.fill place cells vs = some out ∧ RepL E r out.toList ∧ r.length = out.size
  | [], cs, r, cells, vs, hl, _, hc, hsz, h => by
    cases vs with
    | nil => simp [fillAV] at h; subst h; exact ⟨cells, rfl, hc, hsz⟩
    | cons => simp at hl
  | (i, a) :: parts, cs, r, cells, vs, hl, hp, hc, hsz, h => by
    cases vs with
    | nil => simp at hl
    | cons v vs =>
      obtain ⟨i', v⟩ := v
      obtain ⟨hii, hrv⟩ := hp 0 (i, a) (i', v) (by simp) (by simp)
      simp only at hii
      subst hii
      simp only [fillAV] at h
      simp only [Instr.fill]
      split at h
      case h_1 => cases h
      case h_2 off size hpl =>
        split at h
        · rename_i hcond
          simp only at hrv
          obtain ⟨hok, hcond⟩ := hcond
          obtain ⟨hrl, hlen⟩ := RepL.cellsOf hrv hok
          simp only [Array.length_toList] at hlen
          simp only [hpl]
          rw [if_neg (by
            simp only [Bool.or_eq_true, decide_eq_true_eq, ne_eq] at *
            omega)]
          have hz := zipIdx_fold off v.cells.toList 0 cells (by simp; omega)
          simp only [Nat.add_zero, Array.length_toList] at hz
          refine run_fill (by simpa using hl) (fun j a v ha hv => hp (j + 1) a v (by simpa using ha) (by simpa using hv)) ?_ ?_ h
          · rw [← Array.foldl_toList, Array.toList_zipIdx, hz]
            refine RepL.append ?_ ?_ ?_
            · exact RepL.append (hc.take _) (by simp; omega) hrl
            · simp; omega
            · have := hc.drop (off + size)
              rw [show off + v.cells.size = off + size by omega]
              exact this
          · rw [← Array.foldl_toList, Array.toList_zipIdx, ← Array.length_toList, hz]; simp; omega
        · cases h


theorem run_asIntOf {P : Program} (k : IntKind) (n : Int) (w : World) : (asIntOf (.int k n)).run P w = .ok (k, n) w := rfl

theorem run_bound {P : Program} {E : Env} {x : AV} {u : Value} {y y' b : Nat} (hx : RepV E x u) (h : boundOf x y = some b) (hy : y ≤ y') (c : BoundsCode) (w : World) :
    (Instr.sliceBound u y' c).run P w = .ok b w ∧ b ≤ y := by
  unfold boundOf at h
  split at h
  · rename_i k i
    split at h
    · rename_i hb
      cases h
      rw [RepV.sc_inv hx]
      refine ⟨?_, by omega⟩
      simp only [Instr.sliceBound, Sem.run_bind, run_asIntOf, Result.andThen_ok]
      rw [if_pos (by omega)]; rfl
    · cases h
  · cases h

/-- Operands that are there or not. -/
def RepO (E : Env) : Option AV → Option Value → Prop
  | none, none => True
  | some a, some v => RepV E a v
  | _, _ => False

theorem RepT.evO {E : Env} {k : Nat} {t : Nat → AV} {a : Act} (r : RepT E k t a) (x : Option Operand) : RepO E (x.map (Ah.ev t)) (x.map a.eval) := by
  cases x with
  | none => simp [RepO]
  | some x => simpa [RepO] using r.ev x

theorem run_bounds {P : Program} {E : Env} {n lim cap : Nat} {c c' : Option Nat} {lo hi mx : Option AV} {vlo vhi vmx : Option Value} {l h : Nat}
    (h1 : RepO E lo vlo) (h2 : RepO E hi vhi) (h3 : RepO E mx vmx) (hb : bounds n lim c lo hi mx = some (l, h, c')) (hn : n ≤ lim) (hl : lim ≤ cap) (hc : ∀ k, c = some k → cap = k) (isSlice : Bool) (w : World) :
    ∃ m, (Instr.sliceBounds isSlice n cap vlo vhi vmx).run P w = .ok (l, h, m) w ∧ l ≤ h ∧ h ≤ lim ∧ h ≤ m ∧ m ≤ cap ∧ (∀ k, c' = some k → m - l = k) ∧ (c' = none → m = cap ∧ c = none ∧ mx = none) := by
  unfold bounds at hb
  cases mx with
  | none =>
    cases vmx with
    | some v => simp [RepO] at h3
    | none =>
      simp only at hb
      split at hb
      case h_2 => cases hb
      case h_1 hh hhi =>
        split at hb
        case h_2 => cases hb
        case h_1 ll hlo =>
          cases hb
          have fin : h ≤ lim → l ≤ h → (Instr.sliceBounds isSlice n cap vlo vhi none).run P w = .ok (l, h, cap) w →
              ∃ m, (Instr.sliceBounds isSlice n cap vlo vhi none).run P w = .ok (l, h, m) w ∧ l ≤ h ∧ h ≤ lim ∧ h ≤ m ∧ m ≤ cap ∧ (∀ k, c.map (· - l) = some k → m - l = k) ∧ (c.map (· - l) = none → m = cap ∧ c = none ∧ (none : Option AV) = none) := by
            intro b1 b2 hr
            refine ⟨cap, hr, b2, b1, by omega, Nat.le_refl _, ?_, ?_⟩
            · intro k hk
              cases c with
              | none => simp at hk
              | some c => simp at hk; have := hc c rfl; omega
            · intro hk
              cases c with
              | none => exact ⟨rfl, rfl, rfl⟩
              | some c => simp at hk
          cases hi with
          | none =>
            cases vhi with
            | some v => simp [RepO] at h2
            | none =>
              simp only [optBound] at hhi; cases hhi
              cases lo with
              | none =>
                cases vlo with
                | some v => simp [RepO] at h1
                | none => simp only [optBound] at hlo; cases hlo; exact fin hn (Nat.zero_le _) (by simp [Instr.sliceBounds])
              | some x =>
                cases vlo with
                | none => simp [RepO] at h1
                | some v =>
                  simp only [optBound] at hlo
                  obtain ⟨r1, r2⟩ := run_bound (P := P) (y' := n) h1 hlo (Nat.le_refl _) .sliceB w
                  exact fin hn r2 (by simp [Instr.sliceBounds, r1])
          | some x =>
            cases vhi with
            | none => simp [RepO] at h2
            | some v =>
              simp only [optBound] at hhi
              obtain ⟨q1, q2⟩ := run_bound (P := P) (y' := cap) h2 hhi hl (if isSlice then .sliceAcap else .sliceAlen) w
              cases lo with
              | none =>
                cases vlo with
                | some v => simp [RepO] at h1
                | none => simp only [optBound] at hlo; cases hlo; exact fin q2 (Nat.zero_le _) (by simp [Instr.sliceBounds, q1])
              | some x =>
                cases vlo with
                | none => simp [RepO] at h1
                | some v =>
                  simp only [optBound] at hlo
                  obtain ⟨r1, r2⟩ := run_bound (P := P) (y' := h) h1 hlo (Nat.le_refl _) .sliceB w
                  exact fin q2 r2 (by simp [Instr.sliceBounds, q1, r1])
  | some x =>
    cases vmx with
    | none => simp [RepO] at h3
    | some v =>
      simp only [RepO] at h3
      simp only at hb
      split at hb
      case h_2 => cases hb
      case h_1 m hm =>
        cases hi with
        | none => cases hb
        | some y =>
          cases vhi with
          | none => simp [RepO] at h2
          | some vy =>
            simp only [RepO] at h2
            simp only at hb
            split at hb
            case h_2 => cases hb
            case h_1 hh hhi =>
              split at hb
              case h_2 => cases hb
              case h_1 ll hlo =>
                cases hb
                obtain ⟨q1, b1⟩ := run_bound (P := P) (y' := cap) h3 hm hl (if isSlice then .slice3Acap else .slice3Alen) w
                obtain ⟨q2, b2⟩ := run_bound (P := P) (y' := m) h2 hhi (Nat.le_refl _) .slice3B w
                have fin : l ≤ h → (Instr.sliceBounds isSlice n cap vlo (some vy) (some v)).run P w = .ok (l, h, m) w →
                    ∃ m', (Instr.sliceBounds isSlice n cap vlo (some vy) (some v)).run P w = .ok (l, h, m') w ∧ l ≤ h ∧ h ≤ lim ∧ h ≤ m' ∧ m' ≤ cap ∧ (∀ k, some (m - l) = some k → m' - l = k) ∧ (some (m - l) = none → m' = cap ∧ c = none ∧ some x = none) := by
                  intro b3 hr
                  exact ⟨m, hr, b3, by omega, b2, by omega, fun k hk => by simpa using hk, fun hk => by simp at hk⟩
                cases lo with
                | none =>
                  cases vlo with
                  | some v => simp [RepO] at h1
                  | none => simp only [optBound] at hlo; cases hlo; exact fin (Nat.zero_le _) (by simp [Instr.sliceBounds, q1, q2])
                | some x =>
                  cases vlo with
                  | none => simp [RepO] at h1
                  | some v =>
                    simp only [optBound] at hlo
                    obtain ⟨r1, r2⟩ := run_bound (P := P) (y' := h) h1 hlo (Nat.le_refl _) .slice3C w
                    exact fin r2 (by simp [Instr.sliceBounds, q1, q2, r1])

end Go.Proofs.YtcdafogfmijcpaaW.Ah
