/-
  append, whole; and all operations that make memory or write it.
-/
import Derived.Test.YtcdafogfmijcpaaAh8b
namespace Go.Proofs.YtcdafogfmijcpaaW.Ah
set_option linter.unusedVariables false
set_option linter.unusedSimpArgs false
section
variable {P : Program} {T : Tab} {E : Env} {H : Nat → Option Blk} {k : Nat} {t : Nat → AV} {a : Act} {r : AV}

/-- What append comes to, as its own run. -/
def Ya (P : Program) (E : Env) (u v : Value) (st xt ty : Nat) (r : AV) (H' : Nat → Option Blk) (n' : Nat) : Prop :=
  ∃ E' z, (Builtin.append_ #[st, xt] ty #[u, v]).run P E.w = .ok z E'.w ∧ Ext E E' ∧ RepH P E' H' ∧ (∀ b, E'.X b → b < E'.w.heap.size) ∧ E'.N = n' ∧ RepV E' r z

theorem ya_grow (hT : TOk P T) (hH : RepH P E H) (hX : ∀ b, E.X b → b < E.w.heap.size) {e st xt : Nat} {ie : TI} (he : T e = some ie) (hst : P.underlying st = some (.slice e)) (hxt : ∃ d, P.underlying xt = some d ∧ (d matches .int _) = false)
    {x y : AV} {u v : Value} (hx : RepV E x u) (hy : RepV E y v) {kk m : Nat} {old new : List AV} (hox : elemsOf H ie.size x = some (kk, old)) (hoy : elemsOf H ie.size y = some (m, new))
    (hb : (kk + m) * ie.bytes ≤ roomMax) (hm : kk + m ≤ roomMax) (hby : ie.bytes ≤ 2 ^ 20) (hz0 : 0 < ie.size) (hzl : ie.zero.length = ie.size) {base : Option Addr} {sc : Nat} (hu : u = .slice base kk sc) (hcap : sc < kk + m) (ty : TypeId) :
    Ya P E u v st xt ty (.osl E.N 0 (kk + m) none) (upd H E.N (some (.cells (old ++ new) e))) (E.N + 1) := by
  obtain ⟨newCap, cells, h1, h2, h3, h4⟩ := run_append_grow hT hH hX he hst hxt hx hy hox hoy hb hm hby hz0 hzl hu hcap ty
  obtain ⟨hx1, hH1⟩ := drawn_rep hH (E.w.drawn + 1)
  obtain ⟨info, z, g1, g2, _⟩ := (hT.row he).info
  obtain ⟨q1, q2⟩ := newEnv_rep hH1 hX g1 h4
  refine ⟨newEnv { E with w := { E.w with drawn := E.w.drawn + 1 } } cells e info.size, _, h1, hx1.trans (newEnv_ext hH1), q1, q2, rfl, ?_⟩
  simp only [RepV]
  refine ⟨Nat.lt_succ_self _, _, newCap, rfl, h2, (fun q hq => by cases hq), fun l hl => ?_⟩
  simp only [newEnv] at hl
  rw [upd_same] at hl; cases hl
  exact ⟨rfl, fun _ => by simp only [Nat.zero_add]; rw [h3, g2]⟩

/-- Where the old block is given up. -/
theorem ya_forget {u v : Value} {st xt ty : Nat} {i n kk : Nat} {blk : Blk} (hN : i < E.N) (h : Ya P E u v st xt ty (.osl E.N 0 n none) (upd H E.N (some blk)) (E.N + 1)) : Ya P E u v st xt ty (.osl E.N 0 n none) (upd (upd H i none) E.N (some blk)) (E.N + 1) := by
  obtain ⟨E', z, h1, h2, h3, h4, h5, h6⟩ := h
  obtain ⟨q1, q2⟩ := forget_rep h3 h4 i
  have e : upd (upd H E.N (some blk)) i none = upd (upd H i none) E.N (some blk) := by
    funext j
    by_cases e1 : j = i <;> by_cases e2 : j = E.N
    · omega
    · subst e1; rw [upd_same, upd_ne _ _ e2, upd_same]
    · subst e2; rw [upd_ne _ _ e1, upd_same, upd_same]
    · rw [upd_ne _ _ e1, upd_ne _ _ e2, upd_ne _ _ e2, upd_ne _ _ e1]
  rw [e] at q2
  exact ⟨{ E' with m := upd E'.m i none }, z, h1, h2.trans q1, q2, h4, h5, RepV.ext q1 _ _ h6⟩

theorem ya_append (hT : TOk P T) (hH : RepH P E H) (hX : ∀ b, E.X b → b < E.w.heap.size) {st xt : Nat} {x y : AV} {u v : Value} (hx : RepV E x u) (hy : RepV E y v) (hxt : ∃ d, P.underlying xt = some d ∧ (d matches .int _) = false) (ty : Nat)
    {H' : Nat → Option Blk} {n' : Nat} (h : appendAV T H E.N st x y = some (r, H', n')) : Ya P E u v st xt ty r H' n' := by
  unfold appendAV at h
  split at h
  case h_2 => cases h
  case h_1 i hi =>
    split at h
    case h_2 => cases h
    case h_1 e hk =>
      split at h
      case h_2 => cases h
      case h_1 ie he =>
        split at h
        case h_2 => cases h
        case h_1 kk old m new hox hoy =>
          split at h
          case isFalse => cases h
          case isTrue hc =>
            obtain ⟨hb, hm, hby, hz0, hzl, hall⟩ := hc
            have hst := (hT.row hi).slice hk
            obtain ⟨d, hd1, hd2⟩ := hxt
            obtain ⟨info, z, g1, g2, g3, g4, g5⟩ := (hT.row he).info
            have fit : ∀ (base : Option Addr) (sc : Nat) (w' : World), u = .slice base kk sc → kk + m ≤ sc → (∀ vs : Array Value, (Builtin.firstCells ie.size m v).run P E.w = .ok vs E.w → vs.size = m * ie.size → RepL E new vs.toList → ∀ ad, base = some ad → (storeCells (ad.add (kk * ie.size)) vs.toList).run P E.w = .ok () w') → (base = none → w' = E.w) →
                (Builtin.append_ #[st, xt] ty #[u, v]).run P E.w = .ok (.slice base (kk + m) sc) w' := by
              intro base sc w' hu hcap hs hn
              obtain ⟨b1, b2, b3⟩ := run_elems (P := P) hH hy hoy
              obtain ⟨vn, d1, d2, d3⟩ := b3 m (Nat.le_refl _)
              rw [← b2, List.take_length] at d3
              subst hu
              unfold Builtin.append_
              cases d with
              | int k => simp at hd2
              | _ =>
                simp only [List.getElem?_toArray, List.getElem?_cons_zero, List.getElem?_cons_succ, Sem.run_bind, run_under hst, run_under hd1, run_size g1, g2, Result.andThen_ok, Sem.run_pure, Bool.false_eq_true, if_false, Bool.not_false, if_true]
                simp only [b1, Sem.run_bind, Result.andThen_ok]
                rw [if_pos hcap]
                simp only [d1, Sem.run_bind, Result.andThen_ok]
                cases base with
                | none => rw [hn rfl]; rfl
                | some ad => simp only [Sem.run_bind]; rw [hs vn d1 d2 d3 ad rfl]; rfl
            have hxt' : ∃ d, P.underlying xt = some d ∧ (d matches .int _) = false := ⟨d, hd1, hd2⟩
            have hx0 := hx
            -- nothing more
            have same : ∀ (base : Option Addr) (sc : Nat), u = .slice base kk sc → kk ≤ sc → m = 0 → Ya P E u v st xt ty x H E.N := by
              intro base sc hu hcap hm0
              subst hm0
              refine ⟨E, u, ?_, Ext.refl _, hH, hX, rfl, hx⟩
              have := fit base sc E.w hu (by omega) (fun vs _ hvs _ ad _ => by
                have : vs = #[] := Array.eq_empty_of_size_eq_zero (by simpa using hvs)
                subst this; rfl) (fun _ => rfl)
              rw [this, hu]; rfl
            split at h
            case h_1 i' o' n c =>
              split at h
              case h_2 => cases h
              case h_1 cs bty hi' =>
                split at h
                case isFalse => cases h
                case isTrue hty =>
                  have hty := hty.symm
                  subst hty
                  have hox' := hox
                  simp only [elemsOf, hi'] at hox'
                  split at hox'
                  case isFalse => cases hox'
                  case isTrue hle =>
                  simp only [Option.some.injEq, Prod.mk.injEq] at hox'
                  obtain ⟨rfl, hold⟩ := hox'
                  obtain ⟨l, hl, cells, fz, info', q1, q2, q3, q4, q5, q6⟩ := hH.own i' _ hi'
                  rw [g1] at q5; cases q5
                  simp only [RepV] at hx
                  obtain ⟨hN, b, cap, ex, hcap, hcc, hmm⟩ := hx
                  obtain ⟨rfl, hroom⟩ := hmm l hl
                  have hq2 := q2.length
                  simp only [Array.length_toList] at hq2
                  -- in place
                  have inpl : n + m ≤ cap → o' + (n + m) * ie.size ≤ cells.size → ∀ cs' : List AV, (∀ vs : Array Value, vs.size = m * ie.size → RepL E new vs.toList → RepL E cs' (cells.toList.take (o' + n * ie.size) ++ vs.toList ++ cells.toList.drop (o' + n * ie.size + vs.toList.length))) →
                      ∃ w', (Builtin.append_ #[st, xt] ty #[u, v]).run P E.w = .ok (.slice (some ⟨l.b, o', none⟩) (n + m) cap) w' ∧ Ext E { E with w := w' } ∧ RepH P { E with w := w' } (upd H i' (some (.cells cs' e))) ∧ (∀ b, E.X b → b < w'.heap.size) := by
                    intro hfit hroom' cs' hcs'
                    obtain ⟨b1, b2, b3⟩ := run_elems (P := P) hH hy hoy
                    obtain ⟨vn, d1, d2, d3⟩ := b3 m (Nat.le_refl _)
                    rw [← b2, List.take_length] at d3
                    have hvl : vn.toList.length = m * ie.size := by rw [Array.length_toList, d2]
                    have hone := oneCell_of d3 hall
                    rw [b2, ← hvl, List.take_length] at hone
                    rw [Nat.add_mul] at hroom'
                    obtain ⟨w', cells', h1, h2, h3⟩ := run_storeCells (P := P) vn.toList (i := 0) (o := o' + n * ie.size) q1 (by omega) q4 hone
                    obtain ⟨r1, r2, r3⟩ := wrote_env (cs' := cs') hH hX hi' hl h2 (by rw [← Array.length_toList, h3]; simp; omega) (by rw [h3]; exact hcs' vn d2 d3)
                    refine ⟨w', fit _ _ w' ex hfit (fun vs hvs _ _ ad had => ?_) (fun e => by cases e), r1, r2, r3⟩
                    cases had
                    rw [d1] at hvs; cases hvs
                    rw [addr_add]; exact h1
                  split at h
                  case isTrue hfit =>
                    cases h
                    obtain ⟨hf1, hf2⟩ := hfit
                    have hcapfit : n + m ≤ cap := by
                      cases c with
                      | some c => simp [fitsC] at hf1; have := hcc c rfl; omega
                      | none =>
                        have h3 := hroom rfl
                        have : l.z = ie.size := by omega
                        rw [this] at h3
                        have h5 : (n + m) * ie.size ≤ cap * ie.size := by omega
                        exact Nat.le_of_mul_le_mul_right h5 hz0
                    obtain ⟨w', a1, a2, a3, a4⟩ := inpl hcapfit (by omega) (splice cs (o' + n * ie.size) new) (fun vs hvs hr => by
                      unfold splice
                      have hnl : new.length = vs.toList.length := by
                        obtain ⟨_, b2, _⟩ := run_elems (P := P) hH hy hoy
                        rw [b2, Array.length_toList, hvs]
                      rw [Nat.add_mul] at hf2
                      have hvs2 : vs.toList.length = m * ie.size := by rw [Array.length_toList, hvs]
                      rw [hnl]
                      exact RepL.append (RepL.append (q2.take _) (by simp; omega) hr) (by simp; omega) (q2.drop _))
                    refine ⟨{ E with w := w' }, _, a1, a2, a3, a4, rfl, ?_⟩
                    simp only [RepV]
                    exact ⟨hN, l.b, cap, rfl, hcapfit, hcc, fun l' hl' => by
                      have : l' = l := by have := hl'.symm.trans hl; exact Option.some.inj this
                      subst this; exact ⟨rfl, hroom⟩⟩
                  case isFalse hfit =>
                    split at h
                    case h_1 c =>
                      split at h
                      case isTrue => cases h
                      case isFalse hcm =>
                        cases h
                        have := hcc c rfl
                        exact ya_grow hT hH hX he hst hxt' hx0 hy hox hoy hb hm hby hz0 hzl ex (by omega) ty
                    case h_2 =>
                      split at h
                      case isFalse => cases h
                      case isTrue ho =>
                        cases h
                        subst ho
                        rcases Nat.lt_or_ge cap (n + m) with hlt | hge
                        · exact ya_forget (kk := n) hN (ya_grow hT hH hX he hst hxt' hx0 hy hox hoy hb hm hby hz0 hzl ex hlt ty)
                        · have h3 := hroom rfl
                          have hzz : l.z = ie.size := by omega
                          rw [hzz] at h3
                          have h5 : (n + m) * ie.size ≤ cap * ie.size := Nat.mul_le_mul_right _ hge
                          have h6 : n * ie.size ≤ (n + m) * ie.size := Nat.mul_le_mul_right _ (by omega)
                          obtain ⟨w', a1, a2, a3, a4⟩ := inpl hge (by omega) (old ++ new) (fun vs hvs hr => by
                            refine RepL.more ?_
                            have hol : old.length = 0 + n * ie.size := by rw [← hold]; simp; omega
                            refine RepL.append ?_ (by rw [hol]; simp; omega) hr
                            rw [← hold]
                            have := (q2.drop 0).take (n * ie.size)
                            simpa using this)
                          obtain ⟨r1, r2⟩ := rename_rep (i := i') (blk := .cells (old ++ new) e) (l := l) a3 a4 (upd_same _ _ _) hl
                          refine ⟨_, _, a1, a2.trans r1, ?_, a4, rfl, ?_⟩
                          · have e2 : upd (upd (upd H i' (some (Blk.cells (old ++ new) e))) i' none) E.N (some (Blk.cells (old ++ new) e)) = upd (upd H i' none) E.N (some (Blk.cells (old ++ new) e)) := by
                              funext j
                              simp only [upd]
                              split
                              · rfl
                              · split
                                · rfl
                                · rfl
                            rw [← e2]; exact r2
                          · simp only [RepV]
                            refine ⟨Nat.lt_succ_self _, l.b, cap, rfl, hge, (fun q hq => by cases hq), fun l' hl' => ?_⟩
                            rw [upd_same] at hl'
                            cases hl'
                            exact ⟨rfl, fun _ => by rw [hzz]; exact h3⟩
            case h_2 cs n =>
              obtain ⟨ad, cap, ex, hcap, hfull, _⟩ := ssl_shape hx
              have hkn : kk = n := by
                simp only [elemsOf] at hox
                split at hox <;> simp at hox
                exact hox.1.symm
              subst hkn
              have := hfull rfl
              split at h
              case isTrue hm0 => cases h; exact same _ _ ex hcap hm0
              case isFalse hm0 => cases h; exact ya_grow hT hH hX he hst hxt' hx0 hy hox hoy hb hm hby hz0 hzl ex (by omega) ty
            case h_3 =>
              simp only [RepV] at hx
              obtain ⟨ad, cap, ex, hfull⟩ := hx
              have hkn : kk = 0 ∧ old = [] := by
                simp only [elemsOf] at hox
                simp at hox
                exact ⟨hox.1.symm, hox.2⟩
              obtain ⟨rfl, rfl⟩ := hkn
              have := hfull trivial
              split at h
              case isTrue hm0 => cases h; exact same _ _ ex (by omega) hm0
              case isFalse hm0 => cases h; simpa using ya_grow hT hH hX he hst hxt' hx0 hy hox hoy hb hm hby hz0 hzl ex (by omega) ty
            case h_4 =>
              have ex := RepV.sc_inv hx
              have hkn : kk = 0 ∧ old = [] := by
                simp only [elemsOf] at hox
                simp at hox
                exact ⟨hox.1.symm, hox.2⟩
              obtain ⟨rfl, rfl⟩ := hkn
              split at h
              case isTrue hm0 => cases h; exact same _ _ ex (by omega) hm0
              case isFalse hm0 => cases h; simpa using ya_grow hT hH hX he hst hxt' hx0 hy hox hoy hb hm hby hz0 hzl ex (by omega) ty
            case h_5 => cases h


theorem yc_append (hT : TOk P T) (hH : RepH P E H) (hX : ∀ b, E.X b → b < E.w.heap.size) (hr : RepT E k t a) {o : Oper} {args : Array Operand} {ats : Array TypeId} (ho : o.op = .call { callee := .builtin .append, args, argTypes := ats })
    {H' : Nat → Option Blk} {n' : Nat} (h : mop T t H E.N (.call { callee := .builtin .append, args, argTypes := ats }) = some (r, H', n')) : Ym P E a o r H' n' := by
  simp only [mop] at h
  split at h
  case h_2 => cases h
  case h_1 x y st yt e1 e2 =>
    obtain ⟨p, q, rfl, ex, ey⟩ := two_args e1
    obtain rfl : ats = #[st, yt] := by
      obtain ⟨l⟩ := ats; simp at e2; rw [e2]
    have hx := hr.ev p
    have hy := hr.ev q
    rw [ex] at hx; rw [ey] at hy
    split at h
    case h_2 => cases h
    case h_1 iy hiy =>
      have fin : (∃ d, P.underlying yt = some d ∧ (d matches .int _) = false) → appendAV T H E.N st x y = some (r, H', n') → Ym P E a o r H' n' := by
        intro hxt h
        obtain ⟨E', z, h1, h2, h3, h4, h5, h6⟩ := ya_append hT hH hX hx hy hxt o.type h
        refine ⟨E', z, .inl ?_, h2, h3, h4, h5, h6⟩
        unfold execOp; rw [ho]
        simp [resolve, invoke, builtin, h1]
      split at h
      case h_1 e hk => exact fin ⟨_, (hT.row hiy).slice hk, rfl⟩ h
      case h_2 hk => exact fin ⟨_, (hT.row hiy).str hk, rfl⟩ h
      case h_3 => cases h

/-- An operation that the evaluator takes for a value's. -/
theorem vop_sound (hT : TOk P T) (hH : RepH P E H) (hr : RepT E k t a) {o : Oper} (h : vop T t H o.op = some r) : Yv P E a o r := by
  generalize hop : o.op = op at h
  cases op with
  | move x => simp only [vop] at h; cases h; exact yv_move hr (.inl hop)
  | assign x => simp only [vop] at h; cases h; exact yv_move hr (.inr hop)
  | pick c x y =>
    simp only [vop] at h
    split at h
    · rename_i b hc; cases h; exact yv_pick hr hop hc
    · cases h
  | unOp op ty x => exact yv_un hr hop (by simpa only [vop] using h)
  | binOp op ty x y ty' => exact yv_bin hT hr hop (by simpa only [vop] using h)
  | convert src dst x => exact yv_conv hT hr hop (by simpa only [vop] using h)
  | nilCheck x => exact yv_nil hr hop h
  | fieldAddr s x f => exact yv_fieldAddr hT hr hop h
  | field s x f => exact yv_field hT hr hop h
  | indexAddr s x y => exact yv_indexAddr hT hr hop h
  | index s x y => exact yv_index hT hr hop h
  | extract x q => exact yv_extract hr hop h
  | build ty parts => exact yv_build hT hr hop h
  | makeFunc f x y => exact yv_makeFunc hr hop h
  | slice s x lo hi mx => exact yv_slice hT hH hr hop h
  | load ty x => exact yv_load hT hH hr hop h
  | lookup xt x ix ok => exact yv_lookup hT hH hr hop h
  | call c =>
    obtain ⟨callee, args, ats⟩ := c
    cases callee with
    | builtin b =>
      cases b with
      | len => exact yv_len hT hr hop h
      | min => exact yv_min hr hop h
      | max => exact yv_max hr hop h
      | _ => simp [vop] at h
    | _ => simp [vop] at h
  | _ => simp [vop] at h

theorem mop_sound (hT : TOk P T) (hH : RepH P E H) (hX : ∀ b, E.X b → b < E.w.heap.size) (hr : RepT E k t a) {o : Oper} {H' : Nat → Option Blk} {n' : Nat} (h : mop T t H E.N o.op = some (r, H', n')) : Ym P E a o r H' n' := by
  generalize hop : o.op = op at h
  cases op with
  | alloc ty => exact ym_alloc (t := t) hT hH hX hop h
  | box ty x => exact ym_box hT hH hX hr hop h
  | buildSlice ty len parts => exact ym_buildSlice hT hH hX hr hop h
  | makeSlice ty x y => exact ym_makeSlice hT hH hX hr hop h
  | store ty x y => exact ym_store hT hH hX hr hop h
  | makeMap mt x => exact ym_makeMap hH hX hop h
  | mapUpdate mt m kx x => exact ym_mapUpdate hT hH hX hr hop h
  | mapEntry mt m kx => exact ym_mapEntry hT hH hX hr hop h
  | entryStore mt m s x => exact ym_entryStore hT hH hX hr hop h
  | convert src dst x => exact ym_convert hT hH hX hr hop h
  | call c =>
    obtain ⟨callee, args, ats⟩ := c
    cases callee with
    | builtin b =>
      cases b with
      | append => exact yc_append hT hH hX hr hop h
      | copy => exact yc_copy hT hH hX hr hop h
      | delete => exact yc_delete hT hH hX hr hop h
      | clear => exact yc_clear hT hH hX hr hop h
      | _ => simp [mop] at h
    | _ => simp [mop] at h
  | _ => simp [mop] at h

end
end Go.Proofs.YtcdafogfmijcpaaW.Ah
