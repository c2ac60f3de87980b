/-
  Which types have values: all of it.
-/
import Derived.Test.YtappiofmkoelnaaTmFC
import Derived.Test.YtappiofmkoelnaaAhC
namespace Go.Proofs.YtappiofmkoelnaaW.Ah
section
variable {P : Program} {T : Tab} {k : Nat} {t : Nat → AV} {H : Mem} {n : Nat} {C : Cont} {st : List It}
/-- A scope with a label that is jumped to. -/
theorem Stk.scope {c rest : Code} {l : Nat} (hl : findLabel c l = some rest) (R : Nat → (Nat → AV) → Mem → Nat → Prop)
    (h : ∀ C' : Cont, (∀ m t H n, R m t H n → C' (.goto l) t H n) → (∀ t H n, Stk P T k st t H n C → C' .normal t H n) → (∀ t H n, C .ret t H n → C' .ret t H n) → Stk P T k [.code c] t H n C')
    (hj : ∀ m t H n, R m t H n → ∀ C' : Cont, (∀ m' t H n, m' < m → R m' t H n → C' (.goto l) t H n) → (∀ t H n, Stk P T k st t H n C → C' .normal t H n) → (∀ t H n, C .ret t H n → C' .ret t H n) → Stk P T k [.code rest] t H n C') :
    Stk P T k (.code (.scope c) :: st) t H n C := by
  let Q : Ex → St → Prop := fun e s => match e with | .normal => Stk P T k st s.t s.H s.n C | .ret => C .ret s.t s.H s.n | _ => False
  have key : ∀ m, ∀ t H n, R m t H n → ∃ e s', EvScope P T k c rest ⟨t, H, n⟩ e s' ∧ Q e s' := by
    intro m
    induction m using Nat.strongRecOn with
    | _ m ih =>
      intro t H n hr
      have h1 := hj m t H n hr (fun e t H n => (e = .goto l ∧ ∃ m', m' < m ∧ R m' t H n) ∨ ((∀ l', e ≠ .goto l') ∧ Q e ⟨t, H, n⟩)) (fun m' t H n a b => .inl ⟨rfl, m', a, b⟩) (fun t H n a => .inr ⟨fun l' e => by (cases e), a⟩) (fun t H n a => .inr ⟨fun l' e => by (cases e), a⟩)
      obtain ⟨e, s', q1, q2⟩ := EvQ.stk h1
      rcases q2 with ⟨rfl, m', hm, hr'⟩ | ⟨ne, q⟩
      · obtain ⟨e2, s2, p1, p2⟩ := ih m' hm _ _ _ hr'
        exact ⟨e2, s2, .jump q1 hl p1, p2⟩
      · exact ⟨e, s', .straight q1 ne, q⟩
  have h1 := h (fun e t H n => (e = .goto l ∧ ∃ m', R m' t H n) ∨ ((∀ l', e ≠ .goto l') ∧ Q e ⟨t, H, n⟩)) (fun m' t H n b => .inl ⟨rfl, m', b⟩) (fun t H n a => .inr ⟨fun l' e => by (cases e), a⟩) (fun t H n a => .inr ⟨fun l' e => by (cases e), a⟩)
  obtain ⟨e, s', q1, q2⟩ := EvQ.stk h1
  have fin : ∃ e s', EvScope P T k c c ⟨t, H, n⟩ e s' ∧ Q e s' := by
    rcases q2 with ⟨rfl, m', hr'⟩ | ⟨ne, q⟩
    · obtain ⟨e2, s2, p1, p2⟩ := key m' _ _ _ hr'
      exact ⟨e2, s2, .jump q1 hl p1, p2⟩
    · exact ⟨e, s', .straight q1 ne, q⟩
  obtain ⟨e, s', p1, p2⟩ := fin
  simp only [Stk]
  refine ⟨e, s', .scope p1, ?_⟩
  cases e with
  | normal => exact p2
  | ret => exact p2
  | exit => exact p2.elim
  | goto => exact p2.elim
end
end Go.Proofs.YtappiofmkoelnaaW.Ah
namespace Go.Proofs.Ytappiofmkoelnaa.M
open Go.Proofs.YtappiofmkoelnaaW.Ah Go.Proofs.Ytappiofmkoelnaa
set_option maxRecDepth 4000
set_option linter.unusedVariables false
set_option linter.unusedSimpArgs false
attribute [local simp] T.t3 T.t4 T.t9 T.t22 T.t30 T.t32 T.t33 T.t35 T.t37 T.t40 T.t61 T.t62 T.t64 Op.maxDepth List.range List.range.loop
attribute [-simp] appendAV

noncomputable def body10 : Code := Try.f10.body.getD .skip
noncomputable def in10 : Code := match seqs body10 with | [_, .scope c] => c | _ => .skip
theorem rest10 : ∃ r, findLabel in10 0 = some r ∧ seqs r = .skip :: (seqs in10).drop 4 := ⟨_, rfl, rfl⟩

/-- A constructor all of whose fields have values. -/
theorem clos28 {l : List api_Data} {hv : List Bool} {q mm bs b : Nat} (x : api_Con) (hx : x.Fields.length ≤ maxLen ∧ smTs x.Fields = true) {H : Mem} {n : Nat} (s : FS l hv q mm bs H n) (hb : H b = some (.cells [.own q 0] 61)) (lb : b < n) :
    RunQ Try.prog T.T 28 [.agg (c35 x), .own b 0] H n (fun r H' n' => r = B (fillsAll l (ofL hv) x.Fields) ∧ Calm H n H' n') := by
  refine RunQ.ev 9 Try.func28 rfl rfl rfl rfl rfl fun C1 hr1 hn1 => ?_
  obtain ⟨Z, hZ⟩ : ∃ Z, Z = upd H n (some (Blk.cells [.sc (.string x.Name), .ssl (encs c40 x.Fields) x.Fields.length false] 35)) := ⟨_, rfl⟩
  have cZ : Calm H n Z (n + 1) := ⟨by omega, fun j hj => by rw [hZ, upd_ne _ _ (by omega)]⟩
  have z1 : Z b = some (.cells [.own q 0] 61) := by rw [cZ.2 b lb, hb]
  have zn : Z n = some (.cells [.sc (.string x.Name), .ssl (encs c40 x.Fields) x.Fields.length false] 35) := by rw [hZ, upd_same]
  have hc : c35 x = [.sc (.string x.Name), .ssl (encs c40 x.Fields) x.Fields.length false] := rfl
  have ha := allQ (l := l) (hv := hv) x.Fields hx.1 (fun t ht {H : Mem} {n : Nat} => fillsQ (l := l) (hv := hv) (q := q) (mm := mm) (bs := bs) t (smTs_mem hx.2 t ht) (H := H) (n := n)) (s.calm cZ)
  rw [hc]
  simp [← hZ, z1, zn, partOf]
  iterate 5 (try (refine evS_sound (f := 3) ?_; simp [← hZ, z1, zn, partOf]))
  refine Stk.callS 4 ha rfl rfl rfl (by simp) ?_
  rintro r H2 n2 ⟨rfl, hc2⟩
  simp
  iterate 3 (try (refine evS_sound (f := 3) ?_; simp))
  exact hr1 _ _ _ (B (fillsAll l (ofL hv) x.Fields)) (by simp) ⟨rfl, cZ.trans hc2⟩

def okC (c : api_Con) : Bool := decide (c.Fields.length ≤ maxLen) && smTs c.Fields
def okD (d : api_Data) : Bool := decide (d.Cons.length ≤ maxLen) && d.Cons.all okC
def okL (l : List api_Data) : Bool := decide (l.length ≤ 1000) && l.all okD

structure RS (l : List api_Data) (hv : List Bool) (t : Nat → AV) (H : Mem) (n : Nat) : Prop where
  t0 : t 0 = .ssl (encs c32 l) l.length false
  t3 : t 3 = .own 3 0
  fs : FS l hv 2 0 1 H n
  h3 : H 3 = some (.cells [.own 2 0] 61)
  l3 : 3 < n
theorem RS.mv {l : List api_Data} {hv : List Bool} {t t' : Nat → AV} {H H' : Mem} {n n' : Nat} (s : RS l hv t H n) (h0 : t' 0 = t 0) (h3 : t' 3 = t 3) (c : Calm H n H' n') : RS l hv t' H' n' :=
  ⟨by rw [h0, s.t0], by rw [h3, s.t3], s.fs.calm c, by rw [c.2 3 s.l3, s.h3], by have := s.l3; have := c.1; omega⟩

theorem round10 (l : List api_Data) (ho : okL l = true) (hv : List Bool) (C' : Cont)
    (hg : ∀ i t H n, i < l.length → goes l hv i = true → (∀ j, j < i → goes l hv j = false) → RS l (hv.set i true) t H n → C' (.goto 0) t H n)
    (hend : ∀ t H n, (∀ j, j < l.length → goes l hv j = false) → RS l hv t H n → t 2 = .osl 1 0 l.length (some l.length) → C' .ret t H n)
    {t : Nat → AV} {H : Mem} {n : Nat} (s : RS l hv t H n) : Stk Try.prog T.T 58 (codes ((seqs in10).drop 4)) t H n C' := by
  simp only [okL, Bool.and_eq_true, decide_eq_true_eq, List.all_eq_true] at ho
  obtain ⟨hl, hod⟩ := ho
  obtain ⟨t0, t3, fs, h3, l3⟩ := s
  refine Stk.cut (l' := (seqs in10).drop 6) [_, _] rfl fun J hJ => ?_
  refine evS_sound (f := 9) ?_
  simp [codes, t0]
  iterate 4 (try (refine evS_sound (f := 6) ?_; simp [t0]))
  refine Stk.loop 4 (fun μ t H n => ∃ i : Nat, i ≤ l.length ∧ μ = l.length - i ∧ RS l hv t H n ∧ t 26 = .ssl (encs c32 l) l.length false ∧ t 27 = I l.length ∧ t 28 = I i ∧ ∀ j, j < i → goes l hv j = false) l.length
    ⟨0, Nat.zero_le _, rfl, ⟨by simp [t0], by simp [t3], fs, h3, l3⟩, by simp, by simp, by simp, fun j hj => by omega⟩ ?_
  clear t0 t3 fs h3 l3
  rintro J2 hJ2 μ t H n ⟨i, hi, rfl, rs, t26, t27, t28, hno⟩
  obtain ⟨t0, t3, fs, h3, l3⟩ := rs
  by_cases hlt : i < l.length
  · have hlti : (i : Int) < l.length := by omega
    obtain ⟨d, hd⟩ : ∃ d, l[i] = d := ⟨_, rfl⟩
    have hget : l[i]? = some d := by rw [List.getElem?_eq_getElem hlt, hd]
    have hok := hod d (by rw [← hd]; exact List.getElem_mem hlt)
    simp only [okD, Bool.and_eq_true, decide_eq_true_eq, List.all_eq_true] at hok
    have hld : partOf T.T 32 (List.drop (i * 4) (encs c32 l)) 0 = some (.agg (c32 d)) := by rw [← hd]; exact part_agg (e := c32) (z := 4) T.t32 rfl rfl l i hlt
    have hc : c32 d = [.sc (.int .i64 d.At.Line), .sc (.int .i64 d.At.Col), .sc (.string d.Name), .ssl (encs c35 d.Cons) d.Cons.length false] := rfl
    rw [hc] at hld
    have hgo : goes l hv i = (!hv.getD i false && byCon l (ofL hv) d) := by unfold goes; rw [hget]
    obtain ⟨Y, hY⟩ : ∃ Y : Mem, Y = upd (upd H n (some (.cells [.sc (.int .i64 0), .sc (.int .i64 0), .sc (.string ⟨#[]⟩), .sc (.slice none 0 0)] 32))) n (some (.cells [.sc (.int .i64 d.At.Line), .sc (.int .i64 d.At.Col), .sc (.string d.Name), .ssl (encs c35 d.Cons) d.Cons.length false] 32)) := ⟨_, rfl⟩
    have cY : Calm H n Y (n + 1) := ⟨by omega, fun j hj => by rw [hY, upd_ne _ _ (by omega), upd_ne _ _ (by omega)]⟩
    have yn : Y n = some (.cells [.sc (.int .i64 d.At.Line), .sc (.int .i64 d.At.Col), .sc (.string d.Name), .ssl (encs c35 d.Cons) d.Cons.length false] 32) := by rw [hY, upd_same]
    have ys := fs.calm cY
    have y3 : Y 3 = some (.cells [.own 2 0] 61) := by rw [cY.2 3 l3, h3]
    have y2 := ys.hq
    have y1 := ys.hb
    have hlen := ys.len
    have wi := wrap_succ i (by omega)
    have hib : (encs c4 hv)[i]? = some (B (hv.getD i false)) := by
      have := part_one (T := T.T) (f := fun x => B x) T.t4 rfl hv i (by omega)
      rw [partOf_drop T.t4 (by decide)] at this
      have h2 : partOf T.T 4 (encs c4 hv) i = some (B (hv.getD i false)) := by
        rw [this, List.getD_eq_getElem?_getD, List.getElem?_eq_getElem (by omega)]
        rfl
      simpa [partOf] using h2
    have hc27 := containsQ27 (H := Y) (n := n + 1) 28 [] [.own 3 0] d.Cons (fun c => fillsAll l (ofL hv) c.Fields) hok.1 fun x hx H1 n1 c1 => by
      have hx2 := hok.2 x hx
      simp only [okC, Bool.and_eq_true, decide_eq_true_eq] at hx2
      have := clos28 (b := 3) x hx2 (ys.calm c1) (by rw [c1.2 3 (by omega), y3]) (by have := c1.1; omega)
      simpa using this
    have hback : ∀ (t' : Nat → AV) H2 n2, goes l hv i = false → t' 0 = t 0 → t' 3 = t 3 → t' 26 = t 26 → t' 27 = t 27 → t' 28 = I ((i + 1 : Nat) : Int) → Calm Y (n + 1) H2 n2 → J2 (l.length - (i + 1)) t' H2 n2 := fun t' H2 n2 hgf e0 e3 e26 e27 e28 c2 =>
      hJ2 _ _ _ _ ⟨i + 1, hlt, rfl, ⟨by rw [e0, t0], by rw [e3, t3], ys.calm c2, by rw [c2.2 3 (by omega), y3], by have := c2.1; omega⟩, by rw [e26, t26], by rw [e27, t27], e28, fun j hj => by
        by_cases e : j = i
        · subst e; exact hgf
        · exact hno j (by omega)⟩
    simp [t26, t27, t28, hlt, hlti]
    iterate 13 (refine evS_sound (f := 1) ?_; simp [t26, t27, t28, hlt, hlti, hld, ← hY])
    cases hb : hv.getD i false with
    | true =>
      rw [hb] at hib
      iterate 16 (try (refine evS_sound (f := 3) ?_; simp [t3, t26, t27, t28, hlt, hlti, y3, y2, y1, yn, partOf, hib, wi]))
      exact ⟨_, by omega, hback _ _ _ (by rw [hgo, hb]; rfl) (by simp) (by simp) (by simp) (by simp) (by simp) (Calm.rfl' _ _)⟩
    | false =>
      rw [hb] at hib
      iterate 12 (try (refine evS_sound (f := 3) ?_; simp [t3, t26, t27, t28, hlt, hlti, y3, y2, y1, yn, partOf, hib, wi]))
      refine Stk.callS 4 hc27 rfl rfl rfl (by simp [t3]) ?_
      rintro r H2 n2 ⟨rfl, hc2⟩
      cases hby : byCon l (ofL hv) d with
      | true =>
        have hby2 : (d.Cons.any fun c => fillsAll l (ofL hv) c.Fields) = true := hby
        rw [hby2]
        simp
        have zs := ys.calm hc2
        have z3 : H2 3 = some (.cells [.own 2 0] 61) := by rw [hc2.2 3 (by omega), y3]
        have z2 := zs.hq
        have z1 := zs.hb
        obtain ⟨es, c, z0, hmap⟩ := zs.hm
        have hsp : splice (encs c4 hv) i [B true] = encs c4 (hv.set i true) := by
          have := splice_encs (z := 1) (e := c4) hv i (by omega) true
          simpa using this
        have hi1 : i + 1 ≤ hv.length := by omega
        iterate 10 (try (refine evS_sound (f := 2) ?_; simp [t3, z3, z2, z1, partOf, hlt, hsp, hi1, -splice]))
        have hn2 := hc2.1
        refine hg i _ _ _ hlt (by rw [hgo, hb, hby]; rfl) hno ⟨by simp [t0], by simp [t3], ⟨by rw [upd_ne _ _ (by omega), z2], ⟨es, c, by rw [upd_ne _ _ (by omega), z0], hmap⟩, upd_same _ _ _, by simp [hlen], by omega, by omega, by omega⟩, by rw [upd_ne _ _ (by omega), z3], by omega⟩
      | false =>
        have hby2 : (d.Cons.any fun c => fillsAll l (ofL hv) c.Fields) = false := hby
        rw [hby2]
        simp [t28, wi]
        iterate 4 (try (refine evS_sound (f := 3) ?_; simp [t28, wi]))
        exact ⟨_, by omega, hback _ _ _ (by rw [hgo, hb, hby]; rfl) (by simp) (by simp) (by simp) (by simp) (by simp) hc2⟩
  · have hie : i = l.length := by omega
    subst hie
    simp [t27, t28]
    iterate 4 (try (refine evS_sound (f := 4) ?_; simp [t27, t28]))
    refine hJ _ _ _ ?_
    refine Stk.cut (l' := []) [_, _] rfl fun J3 hJ3 => ?_
    have h2 := fs.hq
    refine evS_sound (f := 4) ?_
    simp [codes, t3, h3, h2, partOf]
    iterate 6 (try (refine evS_sound (f := 4) ?_; simp [t3, h3, h2, partOf]))
    exact hend _ _ _ hno ⟨by simp [t0], by simp [t3], fs, h3, l3⟩ (by simp)

theorem RunF.partsZ {f : FuncId} {fn : Func} {c : Code} {args : List AV} {r : AV} (h1 : Try.prog.funcs[f]? = some fn) (h2 : fn.body = some c) (h3 : (fn.name == "runtime.NumGoroutine") = false) {k : Nat} (hk : fn.ntmps = k) (h4 : Nat.ble args.length k = true) {rs : List ResultVar} (hrs : fn.results.toList = rs)
    (h : ∀ C : Cont, (∀ t H n r1 ids, resOf T.T rs ⟨t, H, n⟩ = some r1 → Vw T.T H ids r1 r → C .ret t H n) → Stk Try.prog T.T k (codes (seqs c)) (initT args) (fun _ => none) 0 C) : RunF Try.prog T.T f args r := by
  refine RunF.z h1 h2 h3 hk h4 hrs fun C a => ?_
  have := Stk.seqs c [] (by rw [List.append_nil]; exact h C (fun t H n r1 ids x y => (a t H n r1 ids x y).1))
  exact this

theorem full_ok (l : List api_Data) (ho : okL l = true) : RunF Try.prog T.T 10 [.ssl (encs c32 l) l.length false] (.ssl (encs c4 (fullP l)) (fullP l).length false) := by
  have hol : l.length ≤ 1000 := by simp only [okL, Bool.and_eq_true, decide_eq_true_eq] at ho; exact ho.1
  have hroom : (l.length : Int) * 1 ≤ (roomMax : Int) ∧ l.length ≤ roomMax := by have : roomMax = 2 ^ 46 := rfl; rw [this]; omega
  refine RunF.partsZ (c := body10) Try.func10 (by rfl) rfl rfl rfl rfl fun C hr => ?_
  refine Stk.cut (l' := [.scope in10]) [_] rfl fun J hJ => ?_
  refine evS_sound (f := 3) ?_
  simp [codes]
  iterate 2 (try (refine evS_sound (f := 3) ?_; simp))
  refine hJ _ _ _ ?_
  obtain ⟨rest, hl, hs⟩ := rest10
  have main : ∀ (hv : List Bool) (C' : Cont) t H n, fullP l = fullN l (cntF hv + 1) hv → RS l hv t H n → (∀ m t H n, m < cntF hv → (∃ hv, cntF hv = m ∧ fullP l = fullN l (m + 1) hv ∧ RS l hv t H n) → C' (.goto 0) t H n) → (∀ t H n, C .ret t H n → C' .ret t H n) → Stk Try.prog T.T 58 (codes ((seqs in10).drop 4)) t H n C' := by
    intro hv C' t H n hf rs hg hrt
    refine round10 l ho hv C' (fun i t H n hi hgo hno rs' => ?_) (fun t H n hno rs' t2 => ?_) rs
    · have hst := stepO_of hi hgo hno
      have hc := cntF_set hv i (by rw [rs.fs.len]; exact hi) (goes_not hgo)
      refine hg (cntF hv - 1) _ _ _ (by omega) ⟨_, by omega, ?_, rs'⟩
      rw [hf, fullN, hst]
      simp only
      congr 1; omega
    · have hst := stepO_none.2 hno
      have hfv : fullP l = hv := by rw [hf, fullN, hst]
      refine hrt _ _ _ (hr _ _ _ (.osl 1 0 l.length (some l.length)) [1] (by simp [t2]) (.inr (.inr ?_)))
      have hv1 := view_row (T := T.T) (ids := [1]) (e := c4) fr4 rs'.fs.hb (by simp) (some l.length)
      rw [rs'.fs.len] at hv1
      rw [hfv, rs'.fs.len]
      exact hv1
  refine Stk.scope (st := []) hl (fun m t H n => ∃ hv, cntF hv = m ∧ fullP l = fullN l (m + 1) hv ∧ RS l hv t H n) (fun C' hg hn hrt => ?_) (fun m t H n hR C' hg hn hrt => ?_)
  · refine Stk.seqs in10 [] ?_
    rw [List.append_nil]
    refine Stk.cut (l' := (seqs in10).drop 4) [_, _, _, _] rfl fun J3 hJ3 => ?_
    refine evS_sound (f := 9) ?_
    have hr2 := hroom.2
    simp [codes, hr2]
    iterate 4 (try (refine evS_sound (f := 3) ?_; simp [hr2]))
    refine Stk.callF 4 (backward_fn l) rfl rfl rfl (by simp) (by simp [freeL, free, freeL_encs fr32]) (by simp [freeL, free, freeL_encs fr32]) ?_
    simp
    refine Stk.gen (fun t H n => t 0 = .ssl (encs c32 l) l.length false ∧ t 3 = .own 3 0 ∧ t 16 = .fn (.func 37) [] [.sh [.ssl (encs c32 l) l.length false]] ∧ n = 4 ∧ H 0 = some (.map [] 0) ∧ H 1 = some (.cells (encs c4 (List.replicate l.length false)) 4) ∧ H 2 = some (.cells [.ssl (encs c32 l) l.length false, .omap 0, .osl 1 0 l.length (some l.length)] 64) ∧ H 3 = some (.cells [.own 2 0] 61))
      ⟨by simp, by simp, by simp, rfl, by simp, ?_, by simp, by simp⟩ ?_
    · have : ∀ m : Nat, List.replicate m (AV.sc (Value.bool false)) = encs c4 (List.replicate m false) := fun m => by
        induction m with
        | zero => rfl
        | succ m ih => rw [List.replicate_succ, List.replicate_succ, encs_cons, ih]; rfl
      simp [this]
    rintro t H n ⟨t0, t3, t16, rfl, h0, h1, h2, h3⟩
    refine evS_sound (f := 1) ?_
    simp
    refine Stk.rangeC t16 fun A B hA hB => ?_
    refine ⟨_, backward_run (i := 4) (k0 := 58) (t0 := t) (ps := #[17, 18]) (asg := A) (bod := B) l hol rfl (by rfl) (fun j H n => 5 ≤ n ∧ H 4 = some (.loop t 58 #[17, 18] A B .ready) ∧ H 1 = some (.cells (encs c4 (List.replicate l.length false)) 4) ∧ H 2 = some (.cells [.ssl (encs c32 l) l.length false, .omap 0, .osl 1 0 l.length (some l.length)] 64) ∧ H 3 = some (.cells [.own 2 0] 61) ∧ ∃ es c, H 0 = some (.map es c) ∧ MapOk es (atFrom l j)) ?hI ?hround _ _ ?h0, ?fin⟩
    case h0 =>
      exact ⟨Nat.le_refl _, upd_same _ _ _, by rw [upd_ne _ _ (by omega), h1], by rw [upd_ne _ _ (by omega), h2], by rw [upd_ne _ _ (by omega), h3], [], 0, by rw [upd_ne _ _ (by omega), h0], fun nm => by rw [atFrom_end]; rfl⟩
    case hI => exact fun j H n h => h.2.1
    case fin =>
      rintro v H' n' ⟨hn', hl4, g1, g2, g3, es, c, g0, hm⟩
      refine ⟨⟨_, _, _, _, _, hl4⟩, ?_⟩
      refine evS_sound (f := 3) ?_
      simp
      iterate 3 (try (refine evS_sound (f := 1) ?_; simp))
      rw [atFrom_zero] at hm
      refine hJ3 _ _ _ (main (List.replicate l.length false) C' _ _ _ ?_ ⟨t0, t3, ⟨by rw [upd_ne _ _ (by omega), g2], ⟨es, c, by rw [upd_ne _ _ (by omega), g0], hm⟩, by rw [upd_ne _ _ (by omega), g1], by simp, by omega⟩, by rw [upd_ne _ _ (by omega), g3], by omega⟩ (fun m t H n _ hR => hg m t H n hR) hrt)
      have : cntF (List.replicate l.length false) = l.length := by simp [cntF]
      rw [this]; rfl
    case hround =>
      rintro j d hd H n ⟨hn, hl4, g1, g2, g3, es, c, g0, hm⟩
      refine Round.walk fun C1 hC1 => ?_
      have hlt := (List.getElem?_eq_some_iff.1 hd).1
      have hc : c32 d = [.sc (.int .i64 d.At.Line), .sc (.int .i64 d.At.Col), .sc (.string d.Name), .ssl (encs c35 d.Cons) d.Cons.length false] := rfl
      obtain ⟨Y, hY⟩ : ∃ Y : Mem, Y = upd (upd H n (some (.cells [.sc (.int .i64 0), .sc (.int .i64 0), .sc (.string ⟨#[]⟩), .sc (.slice none 0 0)] 32))) n (some (.cells [.sc (.int .i64 d.At.Line), .sc (.int .i64 d.At.Col), .sc (.string d.Name), .ssl (encs c35 d.Cons) d.Cons.length false] 32)) := ⟨_, rfl⟩
      have yk : ∀ j, j ≠ n → Y j = H j := fun j hj => by rw [hY, upd_ne _ _ hj, upd_ne _ _ hj]
      have yn : Y n = some (.cells [.sc (.int .i64 d.At.Line), .sc (.int .i64 d.At.Col), .sc (.string d.Name), .ssl (encs c35 d.Cons) d.Cons.length false] 32) := by rw [hY, upd_same]
      rw [hA]
      refine evS_sound (f := 3) ?_
      simp [fillT, hc]
      iterate 5 (try (refine evS_sound (f := 1) ?_; simp [fillT, hc, ← hY]))
      refine hC1 _ _ _ ⟨_, _, _, _, _, by rw [yk 4 (by omega), hl4], fun C2 hC2 => ?_⟩
      refine Stk.gen (fun t4 H4 n4 => t4 3 = .own 3 0 ∧ t4 4 = I j ∧ t4 5 = .own n 0 ∧ H4 = upd Y 4 (some (.loop t 58 #[17, 18] A B .busy)) ∧ n4 = n + 1) ⟨by simp [t3], by simp, by simp, rfl, rfl⟩ ?_
      rintro t4 H4 n4 ⟨t43, t44, t45, hH4, rfl⟩
      have q0 : H4 0 = some (.map es c) := by rw [hH4, upd_ne _ _ (by omega), yk 0 (by omega), g0]
      have q1 : H4 1 = some (.cells (encs c4 (List.replicate l.length false)) 4) := by rw [hH4, upd_ne _ _ (by omega), yk 1 (by omega), g1]
      have q2 : H4 2 = some (.cells [.ssl (encs c32 l) l.length false, .omap 0, .osl 1 0 l.length (some l.length)] 64) := by rw [hH4, upd_ne _ _ (by omega), yk 2 (by omega), g2]
      have q3 : H4 3 = some (.cells [.own 2 0] 61) := by rw [hH4, upd_ne _ _ (by omega), yk 3 (by omega), g3]
      have qn : H4 n = some (.cells [.sc (.int .i64 d.At.Line), .sc (.int .i64 d.At.Col), .sc (.string d.Name), .ssl (encs c35 d.Cons) d.Cons.length false] 32) := by rw [hH4, upd_ne _ _ (by omega), yn]
      have hmk : mapK T.T 62 = some (.str, 3) := rfl
      have hko : keyOk .str (.string d.Name) = true := rfl
      rw [hB]
      refine evS_sound (f := 1) ?_
      simp
      refine Stk.regionD 9 [.rd [3], .rd [], .rd [], .rd [2], .rd [], .rd [n], .rd [], .mem [0] (n + 1)] none (by kernel_rfl) (by rfl) rfl (by simp [below]; omega) rfl ?_
      have hfin : ∀ t5 H5, (∃ es c, H5 0 = some (.map es c) ∧ MapOk es (atFrom l j)) → (∀ j, j ≠ 0 → H5 j = H4 j) → C2 .normal t5 H5 (n + 1) := fun t5 H5 hm5 k5 =>
        hC2 _ _ _ _ ⟨_, _, _, _, _, by rw [k5 4 (by omega), hH4, upd_same], rfl, by omega, upd_same _ _ _, by rw [upd_ne _ _ (by omega), k5 1 (by omega), q1], by rw [upd_ne _ _ (by omega), k5 2 (by omega), q2], by rw [upd_ne _ _ (by omega), k5 3 (by omega), q3], by
          obtain ⟨es5, c5, m1, m2⟩ := hm5
          exact ⟨es5, c5, by rw [upd_ne _ _ (by omega), m1], m2⟩⟩
      rcases hm.step hd c with ⟨p, y, b, hf, hm2⟩ | ⟨hf, hm2⟩
      · simp [t43, t44, t45, q0, q1, q2, q3, qn, partOf, hmk, hko, hf]
        iterate 8 (try (refine evS_sound (f := 1) ?_; simp [t43, t44, t45, q0, q1, q2, q3, qn, partOf, hmk, hko, hf]))
        refine ⟨fun j' _ h1 h2 => absurd h2 h1, ?_⟩
        refine evS_sound (f := 1) ?_
        simp
        exact hfin _ _ ⟨_, _, upd_same _ _ _, hm2⟩ (fun j' hj' => upd_ne _ _ hj')
      · simp [t43, t44, t45, q0, q1, q2, q3, qn, partOf, hmk, hko, hf]
        iterate 8 (try (refine evS_sound (f := 1) ?_; simp [t43, t44, t45, q0, q1, q2, q3, qn, partOf, hmk, hko, hf]))
        refine ⟨fun j' _ h1 h2 => absurd h2 h1, ?_⟩
        refine evS_sound (f := 1) ?_
        simp
        exact hfin _ _ ⟨_, _, upd_same _ _ _, hm2⟩ (fun j' hj' => upd_ne _ _ hj')
  · obtain ⟨hv, hm, hf, rs⟩ := hR
    refine Stk.seqs rest [] ?_
    rw [List.append_nil, hs]
    refine Stk.cut (l' := (seqs in10).drop 4) [_] rfl fun J3 hJ3 => ?_
    refine evS_sound (f := 3) ?_
    simp [codes]
    subst hm
    exact hJ3 _ _ _ (main hv C' _ _ _ hf rs hg hrt)
end Go.Proofs.Ytappiofmkoelnaa.M
