/-
  The document's heap: Move.
-/
import Derived.Test.YtfflojbgikfbmaaKN3
namespace Go.Proofs.Ytfflojbgikfbmaa.Hea
open Go.Proofs.YtfflojbgikfbmaaW.Ah
open Go.Proofs.Ytfflojbgikfbmaa.Sta (U Er eU wrap_nsub wrap_pred load_u)
set_option maxRecDepth 4000
set_option linter.unusedVariables false
set_option linter.unusedSimpArgs false
attribute [local simp] T.t3 T.t4 T.t5 T.t9 T.t26 T.t34 T.t35 T.t39 T.t40 T.t62 T.t63 T.t70 T.t93 T.t144 T.t108 T.t176 Op.maxDepth List.range List.range.loop
attribute [-simp] appendAV cellsOf cellOk partOk
attribute [local simp] cellsOf_sc cellOk_sc partOk_sc cellsOf_own cellOk_own partOk_own cellsOf_osl cellOk_osl partOk_osl cellsOf_sh cellOk_sh partOk_sh cellsOf_ssl cellOk_ssl partOk_ssl cellsOf_esl cellOk_esl partOk_esl cellsOf_fn cellOk_fn partOk_fn cellsOf_omap cellOk_omap partOk_omap cellsOf_agg partOk_agg cellsOf_slv cellOk_slv partOk_slv

theorem usedR (F : Nat) (h : Hp) (ok : h.Ok) {a : Nat} (h1 : 1 ≤ a) (h2 : a ≤ 2 * h.half) : M.R16_Heap_Used F (toR h) (a : Int) = some (decide (h.half < a) == h.up) := by
  have hhi := ok.hi
  unfold M.R16_Heap_Used
  rw [firstR F h ok]
  simp only [Option.bind_some, joinM]
  have hw : IntKind.i64.wrap ((h.begin : Int) + (toR h).H.Half) = ((h.begin + h.half : Nat) : Int) := by
    have := h.begin_le
    show IntKind.i64.wrap ((h.begin : Int) + (h.half : Int)) = _
    rw [wrap64_id (by omega) (by omega)]; omega
  rw [hw]
  have hb : h.begin = if h.up then h.half + 1 else 1 := rfl
  cases hu : h.up with
  | true =>
    rw [hu] at hb; simp at hb
    rw [hb]
    by_cases c1 : h.half < a
    · have d1 : decide (((h.half + 1 : Nat) : Int) ≤ (a : Int)) = true := by simp; omega
      have d2 : decide ((a : Int) < ((h.half + 1 + h.half : Nat) : Int)) = true := by simp; omega
      rw [d1, d2]; simp [c1]
    · have d1 : decide (((h.half + 1 : Nat) : Int) ≤ (a : Int)) = false := by simp; omega
      rw [d1]; simp [c1]
  | false =>
    rw [hu] at hb; simp at hb
    rw [hb]
    have d1 : decide (((1 : Nat) : Int) ≤ (a : Int)) = true := by simp; omega
    rw [d1]
    by_cases c1 : h.half < a
    · have d2 : decide ((a : Int) < ((1 + h.half : Nat) : Int)) = false := by simp; omega
      simp only [cond_true, d2]; simp [c1]
    · have d2 : decide ((a : Int) < ((1 + h.half : Nat) : Int)) = true := by simp; omega
      simp only [cond_true, d2]; simp [c1]

/-- What is known may be known otherwise. -/
theorem Stk.weak {P : Program} {T : Tab} {k : Nat} {x : It} {st : List It} {t t' : Nat → AV} {H H' : Mem} {n n' : Nat} {C : Cont} (hx : match x with | .code _ => True | .ops _ _ => True | _ => False) (ids : List Nat) (hw : Weak T ⟨t, H, n⟩ ⟨t', H', n'⟩ ids) (h : Stk P T k (x :: st) t' H' n' C) : Stk P T k (x :: st) t H n C := by
  cases x with
  | code c => simp only [Stk] at h ⊢; exact EvQ.weak ids hw h
  | ops G l => simp only [Stk] at h ⊢; exact EvLQ.weak ids hw h
  | _ => exact hx.elim

/-- The first of a block's words, a row of its own, is given away. -/
theorem Stk.give {P : Program} {T : Tab} {k : Nat} {c : Code} {st : List It} {t : Nat → AV} {H : Mem} {n : Nat} {C : Cont} {q : Nat} {v v' : AV} {cs : List AV} {ty : Nat} (ids : List Nat) (hq : H q = some (.cells (v :: cs) ty)) (hqi : q ∉ ids) (hv : View T H ids v v')
    (h : ∀ H', H' q = some (.cells (v' :: cs) ty) → (∀ j, j ∉ ids → j ≠ q → H' j = H j) → Stk P T k (.code c :: st) t H' n C) : Stk P T k (.code c :: st) t H n C := by
  refine Stk.weak trivial ids (t' := t) (H' := fun j => if j ∈ ids then none else if j = q then some (.cells (v' :: cs) ty) else H j) (n' := n) ⟨fun i => .inl rfl, fun i => ?_, Nat.le_refl _⟩ (h _ (by simp [hqi]) (fun j h1 h2 => by simp [h1, h2]))
  show (if i ∈ ids then none else if i = q then some (.cells (v' :: cs) ty) else H i) = none ∨ _
  by_cases e : i ∈ ids
  · exact .inl (by rw [if_pos e])
  · refine .inr ⟨e, ?_⟩
    by_cases e2 : i = q
    · subst e2
      refine .inr ⟨v :: cs, v' :: cs, ty, hq, by show (if i ∈ ids then none else _) = _; rw [if_neg e, if_pos rfl], Nat.le_refl _, fun j a' ha => ?_⟩
      cases j with
      | zero => exact ⟨v, rfl, by simp at ha; subst ha; exact .inr (.inr hv)⟩
      | succ j => exact ⟨a', by simpa using ha, .inl rfl⟩
    · exact .inl (by show (if i ∈ ids then none else _) = _; rw [if_neg e, if_neg e2])

noncomputable def body132 : Code := Try.f132.body.getD .skip

theorem set_swap {l : List Int} (a b : Nat) (v : Int) : (l.set a v).set b v = (l.set b v).set a v := by
  by_cases e : a = b
  · subst e; rfl
  · exact List.set_comm v v e

theorem moveT {H : Mem} {n p i : Nat} {c : Option Nat} {h : Hp} (s : StR H n p i c h) {x : Int × Int × Int} {a b sz q q7 : Nat} {y : AV} {l : List Int} {ids : List Nat} {cs : List AV} (hcan : Can x.1 x.2.1 x.2.2) (hsz : sz = size x.1 x.2.1 x.2.2) (hl : l.length = sz - 2)
    (ha : a + 2 ≤ 2 * h.half + 1) (hb : b + sz ≤ 2 * h.half + 1) (hy : View T.T H ids y (.ssl (encs eU l) l.length false)) (hp : p ∉ ids) (hi : i ∉ ids) (hq : q ∉ ids) (hq7 : q7 ∉ ids) (hqp : p ≠ q) (hqi : i ≠ q) (hq77 : q7 ≠ q) (h7i : q7 ≠ i) (h7p : q7 ≠ p) (h7n : q7 < n)
    (Hq : H q = some (.cells (y :: cs) 93)) (hcs : cs.length = 5) (H7 : H q7 = some (.cells [I x.1, I x.2.1, I x.2.2] 34)) (t : Nat → AV) (t0 : t 0 = .own p 0) (t7 : t 7 = .own q7 0) (t8 : t 8 = I b) (t10 : t 10 = .sc (.int .u32 a)) (t12 : t 12 = .own q 0) (C : Cont)
    (hr : ∀ (t : Nat → AV) (H' : Mem) (n' : Nat) (r : AV), resOf T.T Try.f132.results.toList ⟨t, H', n'⟩ = some r → (if sz ≤ h.room then r = .tup [U (2 * h.next : Nat), I sz, I 0] ∧ n ≤ n' ∧ (∀ j, j < n → j ≠ p → j ≠ i → j ≠ q → j ∉ ids → H' j = H j) ∧ StR H' n' p i c ⟨((putL h.ws h.next (hv x.1 x.2.1 x.2.2 :: ((2 * h.next : Nat) : Int) :: l)).set (a + 1) ((2 * h.next : Nat) : Int)).set (b + 1) ((2 * h.next : Nat) : Int), h.half, h.up, h.next + sz, h.on, h.scan⟩
      else r = .tup [U 0, I 0, I 21] ∧ n ≤ n' ∧ (∀ j, j < n → j ≠ q → j ∉ ids → H' j = H j)) → C .ret t H' n') :
    Stk Try.prog T.T 89 (codes ((seqs body132).drop 12)) t H n C := by
  have hhi := s.ok.hi
  have hbl := body_le hcan
  have hsb := size_can hcan
  refine Stk.cut (l' := (seqs body132).drop 19) [_, _, _, _, _, _, _] rfl fun J hJ => ?_
  refine Stk.give (q := q) ids Hq hq hy fun H1 k1 k2 => ?_
  have s1 : StR H1 n p i c h := ⟨by rw [k2 p hp hqp]; exact s.hp, by rw [k2 i hi hqi]; exact s.hw, s.lp, s.li, s.ne, s.hc, s.ok⟩
  have h7 : H1 q7 = some (.cells [I x.1, I x.2.1, I x.2.2] 34) := by rw [k2 q7 hq7 hq77]; exact H7
  refine evS_sound (f := 5) ?_
  simp [codes, t0, t7, t8, t10, t12, h7, k1, partOf, hcs]
  by_cases hfit : sz ≤ h.room
  · simp only [if_pos hfit] at hr
    refine Stk.callS 5 (putR3 s1 x l hcan (by omega) (by omega)) rfl rfl rfl (by simp) ?_
    rintro v H2 n2 ⟨rfl, st⟩
    have hp2 : H2 p = some (.cells [.osl i 0 (2 * h.half + 1) c, I h.half, B h.up, I (h.next + size x.1 x.2.1 x.2.2 : Nat), B h.on, I h.scan] 176) := st.st.hp
    have hw2 : H2 i = some (.cells (encs eU (laid h x l).ws) 40) := st.st.hw
    have hlen2 : (laid h x l).ws.length = 2 * h.half + 1 := st.st.ok.len
    have h72 : H2 q7 = some (.cells [I x.1, I x.2.1, I x.2.2] 34) := by rw [st.keep q7 h7n h7p h7i]; exact h7
    have hws2 : (laid h x l).ws = putL h.ws h.next (hv x.1 x.2.1 x.2.2 :: ((2 * h.next : Nat) : Int) :: l) := rfl
    have hne := s.ne
    obtain ⟨ws2, e2⟩ : ∃ ws2, ws2 = (laid h x l).ws := ⟨_, rfl⟩
    obtain ⟨pw, hpw⟩ : ∃ pw : Int, pw = ((2 * h.next : Nat) : Int) := ⟨_, rfl⟩
    rw [← e2] at hw2 hlen2 hws2
    simp only [← hpw] at hr hws2 ⊢
    rw [← hws2] at hr
    have wa : IntKind.i64.wrap (a : Int) = a := wrap64_id (by omega) (by omega)
    obtain ⟨a1, ha1⟩ : ∃ a1, a1 = a + 1 := ⟨_, rfl⟩
    obtain ⟨b1, hb1⟩ : ∃ b1, b1 = b + 1 := ⟨_, rfl⟩
    have wa1 : IntKind.i64.wrap ((a : Int) + 1) = (a1 : Int) := by rw [wrap64_id (by omega) (by omega)]; omega
    have wb1 : IntKind.i64.wrap ((b : Int) + 1) = (b1 : Int) := by rw [wrap64_id (by omega) (by omega)]; omega
    have la : a1 < 2 * h.half + 1 := by omega
    have lai : (a1 : Int) < 2 * (h.half : Int) + 1 := by omega
    have lb : b1 < 2 * h.half + 1 := by omega
    have lbi : (b1 : Int) < 2 * (h.half : Int) + 1 := by omega
    have lb2 : b1 + 1 ≤ ws2.length := by omega
    have la2 : a1 + 1 ≤ ws2.length := by omega
    have set1 := set_cells (l := ws2) (k := b1) (by omega) pw
    have set2 := set_cells (l := ws2.set b1 pw) (k := a1) (by rw [List.length_set]; omega) pw
    simp [t0, t8, t10]
    iterate 3 (try (refine evS_sound (f := 8) ?_; simp [t0, t8, t10, hne, Ne.symm hne, hp2, hw2, lb, lbi, lb2, wb1, splice, set1, set2, la, lai, la2, wa, wa1]))
    iterate 3 (try (refine evS_sound (f := 8) ?_; simp [t0, t7, t8, t10, hne, Ne.symm hne, hp2, hw2, h72, lb, lbi, lb2, wb1, splice, set1, set2, la, lai, la2, wa, wa1, h7i, partOf]))
    refine Stk.callF 9 (sizeRF x) rfl rfl rfl (by simp) rfl rfl ?_
    simp
    iterate 2 (try (refine evS_sound (f := 8) ?_; simp))
    refine hr _ _ _ (.tup [U pw, I sz, I 0]) (by simp [hsz]) ⟨rfl, st.le, fun j h1 h2 h3 h4 h5 => ?_, ?_⟩
    · rw [upd_ne _ _ h3, upd_ne _ _ h3, st.keep j h1 h2 h3, k2 j h5 h4]
    · have ok2 := st.st.ok
      refine ⟨by rw [upd_ne _ _ (Ne.symm hne), upd_ne _ _ (Ne.symm hne), hp2, hsz], ?_, st.st.lp, st.st.li, hne, s.hc, ⟨ok2.lo, ok2.hi, by simp [hlen2], hsz ▸ ok2.bg, hsz ▸ ok2.to⟩⟩
      rw [upd_same, set_swap, ha1, hb1]
  · simp only [if_neg hfit] at hr
    refine Stk.callS 5 (putR2 s1 x l hcan (by omega) (by omega)) rfl rfl rfl (by simp) ?_
    rintro v H2 n2 ⟨rfl, hc2⟩
    simp
    iterate 3 (try (refine evS_sound (f := 8) ?_; simp))
    exact hr _ _ _ (.tup [U 0, I 0, I 21]) (by simp) ⟨rfl, hc2.1, fun j h1 h2 h3 => by rw [hc2.2 j h1, k2 j h3 h2]⟩

theorem moveR {H : Mem} {n p i : Nat} {c : Option Nat} {h : Hp} (s : StR H n p i c h) (hws : ∀ v ∈ h.ws, 0 ≤ v ∧ v ≤ 18446744073709551615) (w : Int) (w0 : 0 ≤ w) (w9 : w ≤ 18446744073709551615) :
    RunQ Try.prog T.T 132 [.own p 0, U w] H n (fun r H' n' => match h.recAt w with
      | none => r = .tup [U 0, I 0, I 22] ∧ Calm H n H' n'
      | some (b, x) => ∃ a, h.pl w = some a ∧ 2 ≤ h.span a ∧ h.pl (h.ws.getD (a + 1) 0) = some b ∧ (if h.usedP w = true then r = .tup [U w, I 0, I 0] ∧ Calm H n H' n'
      else if h.usedP (h.ws.getD (a + 1) 0) = true then r = .tup [U (h.ws.getD (a + 1) 0), I 0, I 0] ∧ Calm H n H' n'
      else if size x.1 x.2.1 x.2.2 ≤ h.room then r = .tup [U (2 * h.next : Nat), I (size x.1 x.2.1 x.2.2), I 0] ∧ StepR H n p i c H' n' ⟨((putL h.ws h.next (hv x.1 x.2.1 x.2.2 :: ((2 * h.next : Nat) : Int) :: (h.ws.drop (b + 2)).take (size x.1 x.2.1 x.2.2 - 2))).set (a + 1) ((2 * h.next : Nat) : Int)).set (b + 1) ((2 * h.next : Nat) : Int), h.half, h.up, h.next + size x.1 x.2.1 x.2.2, h.on, h.scan⟩
      else r = .tup [U 0, I 0, I 21] ∧ Calm H n H' n')) := by
  have hlen := s.ok.len
  have hlp := s.lp
  have hli := s.li
  have hhi := s.ok.hi
  have hR := M.ok_R16_Heap_record 0 (toR h) w _ (recordR 0 h s.ok hws w w0 w9)
  cases hrec : h.recAt w with
  | none =>
    have hR2 : RunF Try.prog T.T 145 [.sh (M.c176 (toR h)), U w] (.tup [hd 0 0 0, I 0, B false]) := by have := hR; rw [hrec] at this; exact this
    refine RunQ.ev 999 Try.func132 rfl rfl rfl rfl rfl fun C hr hn => ?_
    simp
    refine Stk.callB 8 [p, i] hR2 rfl rfl rfl (by simp) (.cons (viewR s) (.free rfl)) rfl ?_
    simp
    iterate 4 (try (refine evS_sound (f := 8) ?_; simp [partOf]))
    exact hr _ _ _ (.tup [U 0, I 0, I 22]) (by simp) ⟨rfl, by omega, fun j hj => by simp [show j ≠ n by omega]⟩
  | some bx =>
    obtain ⟨b, x⟩ := bx
    have hR2 : RunF Try.prog T.T 145 [.sh (M.c176 (toR h)), U w] (.tup [hd x.1 x.2.1 x.2.2, I b, B true]) := by have := hR; rw [hrec] at this; exact this
    obtain ⟨a, ha, hsa, hb, hsb⟩ := recAt_pl hrec
    obtain ⟨b1, b2, b3, hcan, hwb⟩ := recAt_le hrec
    obtain ⟨a1, a2, hwa⟩ := pl_le ha
    have hpa := pl_place ha
    have hpb := pl_place hb
    obtain ⟨_, _, hub⟩ := pl_le hb
    have hspa := span_le a2
    have hsz := size_can hcan
    have hbl := body_le hcan
    have hua : h.usedP w = (decide (h.half < a) == h.up) := by unfold Hp.usedP; rw [hpa]; rfl
    have hubb : h.usedP (h.ws.getD (a + 1) 0) = (decide (h.half < b) == h.up) := by unfold Hp.usedP; rw [hpb]; rfl
    have hA : RunF Try.prog T.T 147 [U w] (.tup [.sc (.int .u32 a), B true]) := by have := M.ok_R01_At 0 w _ (atR 0 w w0 w9); rw [hpa] at this; exact this
    obtain ⟨sz, hsz'⟩ : ∃ sz, sz = size x.1 x.2.1 x.2.2 := ⟨_, rfl⟩
    obtain ⟨u, hu⟩ : ∃ u, u = h.ws.getD (a + 1) 0 := ⟨_, rfl⟩
    simp only [← hsz', ← hu] at b3 hsz hsb hub hubb ⊢
    have wa : IntKind.i64.wrap (a : Int) = a := wrap64_id (by omega) (by omega)
    refine RunQ.parts (c := body132) Try.func132 (by rfl) rfl rfl rfl rfl fun C hr hn => ?_
    have hr : ∀ (t : Nat → AV) (H' : Mem) (n' : Nat) (r : AV), resOf T.T Try.f132.results.toList ⟨t, H', n'⟩ = some r → (if h.usedP w = true then r = .tup [U w, I 0, I 0] ∧ Calm H n H' n'
      else if h.usedP u = true then r = .tup [U u, I 0, I 0] ∧ Calm H n H' n'
      else if sz ≤ h.room then r = .tup [U (2 * h.next : Nat), I sz, I 0] ∧ StepR H n p i c H' n' ⟨((putL h.ws h.next (hv x.1 x.2.1 x.2.2 :: ((2 * h.next : Nat) : Int) :: (h.ws.drop (b + 2)).take (sz - 2))).set (a + 1) ((2 * h.next : Nat) : Int)).set (b + 1) ((2 * h.next : Nat) : Int), h.half, h.up, h.next + sz, h.on, h.scan⟩
      else r = .tup [U 0, I 0, I 21] ∧ Calm H n H' n') → C .ret t H' n' := fun t H' n' r h1 h2 => hr t H' n' r h1 ⟨a, ha, hsa, hb, by rw [← hu]; exact h2⟩
    refine Stk.cut (l' := (seqs body132).drop 12) [_, _, _, _, _, _, _, _, _, _, _, _] rfl fun J hJ => ?_
    refine evS_sound (f := 99) ?_
    simp [codes]
    refine Stk.callB 8 [p, i] hR2 rfl rfl rfl (by simp) (.cons (viewR s) (.free rfl)) rfl ?_
    obtain ⟨H1, hH1⟩ : ∃ H1 : Mem, H1 = upd (upd H n (some (.cells [.sc (.int .i64 0), .sc (.int .i64 0), .sc (.int .i64 0)] 34))) n (some (.cells [I x.1, I x.2.1, I x.2.2] 34)) := ⟨_, rfl⟩
    have hc1 : Calm H n H1 (n + 1) := ⟨by omega, fun j hj => by rw [hH1, upd_ne _ _ (by omega), upd_ne _ _ (by omega)]⟩
    have s1 := s.far hc1.1 hc1.2
    have h1n : H1 n = some (.cells [I x.1, I x.2.1, I x.2.2] 34) := by rw [hH1, upd_same]
    simp [partOf, splice]
    iterate 2 (try (refine evS_sound (f := 8) ?_; simp [partOf, splice]))
    rw [← hH1]
    refine Stk.callF 8 hA rfl rfl rfl (by simp) rfl rfl ?_
    simp
    iterate 2 (try (refine evS_sound (f := 8) ?_; simp [wa]))
    refine Stk.callB 8 [p, i] (M.ok_R16_Heap_Used 0 (toR h) a _ (usedR 0 h s.ok a1 a2)) rfl rfl rfl (by simp [wa]) (.cons (viewR s1) (.free rfl)) rfl ?_
    rw [← hua]
    cases hu1 : h.usedP w with
    | true =>
      simp only [hu1, if_true] at hr
      simp
      iterate 4 (try (refine evS_sound (f := 8) ?_; simp))
      exact hr _ _ _ (.tup [U w, I 0, I 0]) (by simp) ⟨rfl, hc1⟩
    | false =>
      simp only [hu1, Bool.false_eq_true, if_false] at hr
      simp
      iterate 2 (try (refine evS_sound (f := 8) ?_; simp))
      refine Stk.callB 8 [p, i] (M.ok_R16_Heap_Used 0 (toR h) b _ (usedR 0 h s.ok (by omega) (by omega))) rfl rfl rfl (by simp) (.cons (viewR s1) (.free rfl)) rfl ?_
      rw [← hubb]
      have wb : IntKind.u32.wrap (b : Int) = b := wrapu32_id (by omega) (by omega)
      cases hu2 : h.usedP u with
      | true =>
        simp only [hu2, if_true] at hr
        simp
        iterate 2 (try (refine evS_sound (f := 8) ?_; simp [wb]))
        have hpt := ptrR b (by omega)
        rw [← hub] at hpt
        refine Stk.callF 9 hpt rfl rfl rfl (by simp [wb]) rfl rfl ?_
        simp
        iterate 2 (try (refine evS_sound (f := 8) ?_; simp))
        exact hr _ _ _ (.tup [U u, I 0, I 0]) (by simp) ⟨rfl, hc1⟩
      | false =>
        simp only [hu2, Bool.false_eq_true, if_false] at hr
        simp
        iterate 1 (try (refine evS_sound (f := 8) ?_; simp [wb]))
        have hp1 : H1 p = some (.cells [.osl i 0 (2 * h.half + 1) c, I h.half, B h.up, I h.next, B h.on, I h.scan] 176) := s1.hp
        have hw1 := s1.hw
        have hsz2 : 2 ≤ sz := by omega
        obtain ⟨b2', hb2⟩ : ∃ b2, b2 = b + 2 := ⟨_, rfl⟩
        obtain ⟨b3', hb3⟩ : ∃ b3, b3 = b + sz := ⟨_, rfl⟩
        have wb2 : IntKind.i64.wrap ((b : Int) + 2) = (b2' : Int) := by rw [wrap64_id (by omega) (by omega)]; omega
        have wb3 : IntKind.i64.wrap ((b : Int) + (sz : Int)) = (b3' : Int) := by rw [wrap64_id (by omega) (by omega)]; omega
        have q0 : b2' ≤ b3' := by omega
        have q1 : b3' ≤ 2 * h.half + 1 := by omega
        have q1i : (b3' : Int) ≤ 2 * (h.half : Int) + 1 := by omega
        have q2 : b2' ≤ 2 * h.half + 1 := by omega
        have qz : ¬ b2' = 0 := by omega
        have hs36 := sizeRF x
        rw [← hsz'] at hs36
        obtain ⟨l, hl⟩ : ∃ l, l = (h.ws.drop (b + 2)).take (sz - 2) := ⟨_, rfl⟩
        have hll : l.length = sz - 2 := by rw [hl, List.length_take, List.length_drop]; omega
        have hdn : b3' - b2' = l.length := by omega
        have hne := s.ne
        rw [← hl] at hr
        have fin : ∀ (t : Nat → AV) (H2 : Mem) (n2 j : Nat) (y : AV) (cs : List AV), (j = i → False) → n ≤ j → t 0 = .own p 0 → t 7 = .own n 0 → t 8 = I b → t 10 = .sc (.int .u32 a) → t 12 = .own n2 0 → H2 n2 = some (.cells (y :: cs) 93) → cs.length = 5 → View T.T H2 [j] y (.ssl (encs eU l) l.length false) → j ≠ n → j ≠ n2 → n + 1 ≤ n2 → (∀ j, j < n + 1 → H2 j = H1 j) → Stk Try.prog T.T 89 (codes ((seqs body132).drop 12)) t H2 (n2 + 1) C := by
          intro t H2 n2 j y cs hji hnj t0 t7 t8 t10 t12 Hq hcs hy hjn hjn2 hn2 hk
          have s2 : StR H2 (n2 + 1) p i c h := s1.far (by omega) hk
          refine moveT s2 (x := x) (a := a) (b := b) (sz := sz) (q := n2) (q7 := n) (y := y) (l := l) (ids := [j]) (cs := cs) hcan hsz' hll (by omega) b3 hy (by simp; omega) (by simp; omega) (by simp; omega) (by simp; omega) (by omega) (by omega) (by omega) (by omega) (by omega) (by omega) Hq hcs (by rw [hk n (by omega)]; exact h1n) t t0 t7 t8 t10 t12 C fun t' H' n' r h1 h2 => hr t' H' n' r h1 ?_
          by_cases hf : sz ≤ h.room
          · rw [if_pos hf] at h2 ⊢
            exact ⟨h2.1, h2.2.2.2, by omega, fun k g1 g2 g3 => by rw [h2.2.2.1 k (by omega) g2 g3 (by omega) (by simp; omega), hk k (by omega), hc1.2 k g1]⟩
          · rw [if_neg hf] at h2 ⊢
            exact ⟨h2.1, by omega, fun k g1 => by rw [h2.2.2 k (by omega) (by omega) (by simp; omega), hk k (by omega), hc1.2 k g1]⟩
        by_cases q3 : b2' < b3'
        · have own3 : ∀ c', RunQ Try.prog T.T 122 [.agg [.osl i b2' (b3' - b2') c', I 0, B false, I 0, B false, I 0]] H1 (n + 1) (fun r H' n' => ∃ j, r = .agg [.osl j 0 (b3' - b2') none, I 0, B false, I 0, B false, I 0] ∧ n + 1 ≤ j ∧ j < n' ∧ H' j = some (.cells (encs eU ((h.ws.drop b2').take (b3' - b2'))) 40) ∧ Calm H1 (n + 1) H' n') := fun c' => ownQ hw1 (by omega) (by omega) (by omega) (by omega)
          rcases s.hc with rfl | rfl
          · refine Stk.regionD 99 [.rd [], .rd [], .rd [], .rd [], .rd [p], .rd [], .rd [], .rd [], .rd [n], .rd [], .rd [], .rd [i], .rd [], .mem [] (n + 1), .mem [] (n + 1), .mem [] (n + 1)] (some 14) (by kernel_rfl) (by rfl) rfl (by simp [below]; omega) rfl ?_
            simp [hp1, h1n, partOf]
            refine Stk.callFD 9 hs36 rfl rfl rfl rfl rfl (by simp) rfl rfl ?_
            simp [hw1, hlen, wb2, wb3, natOk, q0, q1, q1i, q2, qz, q3]
            refine Stk.callSD 9 rfl ?_ (own3 none) rfl rfl rfl rfl (by simp) ?_
            · rintro v H' n' ⟨j0, _, _, _, _, g⟩ j hj _; exact g.2 j hj
            rintro v H2 n2 ⟨j, rfl, hj1, hj2, hj3, hcj⟩
            rw [show (h.ws.drop b2').take (b3' - b2') = l by rw [hl, hb2]; congr 1; omega] at hj3
            have g2 := hcj.1
            simp [partOf, splice]
            refine ⟨fun k h1 h2 => absurd h2 (by omega), fun k h1 h2 => absurd h2 (by omega), hJ _ _ _ (fin _ _ n2 j (.osl j 0 (b3' - b2') none) [I 0, B false, I 0, B false, I 0] (by omega) (by omega) (by simp) (by simp) (by simp) (by simp) (by simp) (by simp) rfl ?_ (by omega) (by omega) (by omega) (fun k hk => ?_))⟩
            · rw [hdn]
              exact view_row (T := T.T) (ids := [j]) (e := eU) (fun _ => rfl) (by rw [upd_ne _ _ (by omega), upd_ne _ _ (by omega)]; exact hj3) (by simp) none
            · rw [upd_ne _ _ (by omega), upd_ne _ _ (by omega), hcj.2 k hk]
          · refine Stk.regionD 99 [.rd [], .rd [], .rd [], .rd [], .rd [p], .rd [], .rd [], .rd [], .rd [n], .rd [], .rd [], .rd [i], .rd [], .mem [] (n + 1), .mem [] (n + 1), .mem [] (n + 1)] (some 14) (by kernel_rfl) (by rfl) rfl (by simp [below]; omega) rfl ?_
            simp [hp1, h1n, partOf]
            refine Stk.callFD 9 hs36 rfl rfl rfl rfl rfl (by simp) rfl rfl ?_
            simp [hw1, hlen, wb2, wb3, natOk, q0, q1, q1i, q2, qz, q3]
            refine Stk.callSD 9 rfl ?_ (own3 (some (2 * h.half + 1 - b2'))) rfl rfl rfl rfl (by simp) ?_
            · rintro v H' n' ⟨j0, _, _, _, _, g⟩ j hj _; exact g.2 j hj
            rintro v H2 n2 ⟨j, rfl, hj1, hj2, hj3, hcj⟩
            rw [show (h.ws.drop b2').take (b3' - b2') = l by rw [hl, hb2]; congr 1; omega] at hj3
            have g2 := hcj.1
            simp [partOf, splice]
            refine ⟨fun k h1 h2 => absurd h2 (by omega), fun k h1 h2 => absurd h2 (by omega), hJ _ _ _ (fin _ _ n2 j (.osl j 0 (b3' - b2') none) [I 0, B false, I 0, B false, I 0] (by omega) (by omega) (by simp) (by simp) (by simp) (by simp) (by simp) (by simp) rfl ?_ (by omega) (by omega) (by omega) (fun k hk => ?_))⟩
            · rw [hdn]
              exact view_row (T := T.T) (ids := [j]) (e := eU) (fun _ => rfl) (by rw [upd_ne _ _ (by omega), upd_ne _ _ (by omega)]; exact hj3) (by simp) none
            · rw [upd_ne _ _ (by omega), upd_ne _ _ (by omega), hcj.2 k hk]
        · have hl0 : l = [] := List.eq_nil_of_length_eq_zero (by omega)
          have own4 : ∀ {f}, RunQ Try.prog T.T 122 [.agg [.esl f, I 0, B false, I 0, B false, I 0]] H1 (n + 1) (fun r H' n' => r = .agg [.sc (.slice none 0 0), I 0, B false, I 0, B false, I 0] ∧ Calm H1 (n + 1) H' n') := own0
          rcases s.hc with rfl | rfl
          · refine Stk.regionD 99 [.rd [], .rd [], .rd [], .rd [], .rd [p], .rd [], .rd [], .rd [], .rd [n], .rd [], .rd [], .rd [i], .rd [], .mem [] (n + 1), .mem [] (n + 1), .mem [] (n + 1)] (some 14) (by kernel_rfl) (by rfl) rfl (by simp [below]; omega) rfl ?_
            simp [hp1, h1n, partOf]
            refine Stk.callFD 9 hs36 rfl rfl rfl rfl rfl (by simp) rfl rfl ?_
            simp [hw1, hlen, wb2, wb3, natOk, q0, q1, q1i, q2, qz, q3]
            refine Stk.callSD 9 rfl ?_ (own4 (f := false)) rfl rfl rfl rfl (by simp) ?_
            · rintro v H' n' ⟨_, g⟩ j hj _; exact g.2 j hj
            rintro v H2 n2 ⟨rfl, hcj⟩
            have g2 := hcj.1
            simp [partOf, splice]
            refine ⟨fun k h1 h2 => absurd h2 (by omega), fun k h1 h2 => absurd h2 (by omega), hJ _ _ _ (fin _ _ n2 (n2 + 1) (.sc (.slice none 0 0)) [I 0, B false, I 0, B false, I 0] (by omega) (by omega) (by simp) (by simp) (by simp) (by simp) (by simp) (by simp) rfl ?_ (by omega) (by omega) (by omega) (fun k hk => ?_))⟩
            · rw [hl0]; exact .nilS
            · rw [upd_ne _ _ (by omega), upd_ne _ _ (by omega), hcj.2 k hk]
          · refine Stk.regionD 99 [.rd [], .rd [], .rd [], .rd [], .rd [p], .rd [], .rd [], .rd [], .rd [n], .rd [], .rd [], .rd [i], .rd [], .mem [] (n + 1), .mem [] (n + 1), .mem [] (n + 1)] (some 14) (by kernel_rfl) (by rfl) rfl (by simp [below]; omega) rfl ?_
            simp [hp1, h1n, partOf]
            refine Stk.callFD 9 hs36 rfl rfl rfl rfl rfl (by simp) rfl rfl ?_
            simp [hw1, hlen, wb2, wb3, natOk, q0, q1, q1i, q2, qz, q3]
            refine Stk.callSD 9 rfl ?_ (own4 (f := (2 * h.half + 1 - b2' == 0))) rfl rfl rfl rfl (by simp) ?_
            · rintro v H' n' ⟨_, g⟩ j hj _; exact g.2 j hj
            rintro v H2 n2 ⟨rfl, hcj⟩
            have g2 := hcj.1
            simp [partOf, splice]
            refine ⟨fun k h1 h2 => absurd h2 (by omega), fun k h1 h2 => absurd h2 (by omega), hJ _ _ _ (fin _ _ n2 (n2 + 1) (.sc (.slice none 0 0)) [I 0, B false, I 0, B false, I 0] (by omega) (by omega) (by simp) (by simp) (by simp) (by simp) (by simp) (by simp) rfl ?_ (by omega) (by omega) (by omega) (fun k hk => ?_))⟩
            · rw [hl0]; exact .nilS
            · rw [upd_ne _ _ (by omega), upd_ne _ _ (by omega), hcj.2 k hk]
end Go.Proofs.Ytfflojbgikfbmaa.Hea

/-
  Both heaps side by side: what the document tells of a field and a text, Put at once (plain).
-/
namespace Go.Proofs.Ytfflojbgikfbmaa.Hea
open Go.Proofs.YtfflojbgikfbmaaW.Ah
open Go.Proofs.Ytfflojbgikfbmaa.Sta (U Er eU wrap_nsub wrap_pred load_u)
set_option maxRecDepth 4000
set_option linter.unusedVariables false
set_option linter.unusedSimpArgs false
attribute [local simp] T.t3 T.t4 T.t5 T.t9 T.t26 T.t34 T.t35 T.t39 T.t40 T.t62 T.t63 T.t70 T.t93 T.t144 T.t108 T.t176 Op.maxDepth List.range List.range.loop
attribute [-simp] appendAV cellsOf cellOk partOk
attribute [local simp] cellsOf_sc cellOk_sc partOk_sc cellsOf_own cellOk_own partOk_own cellsOf_osl cellOk_osl partOk_osl cellsOf_sh cellOk_sh partOk_sh cellsOf_ssl cellOk_ssl partOk_ssl cellsOf_esl cellOk_esl partOk_esl cellsOf_fn cellOk_fn partOk_fn cellsOf_omap cellOk_omap partOk_omap cellsOf_agg partOk_agg cellsOf_slv cellOk_slv partOk_slv

abbrev In64 (v : Int) : Prop := 0 ≤ v ∧ v ≤ 18446744073709551615
def Wd (h : Hp) : Prop := ∀ v ∈ h.ws, In64 v

theorem Wd.getD {h : Hp} (g : Wd h) {k : Nat} (hk : k < h.ws.length) : In64 (h.ws.getD k 0) := by
  have e : h.ws[k]? = some (h.ws.getD k 0) := by rw [List.getD_eq_getElem?_getD, List.getElem?_eq_getElem hk]; rfl
  exact g _ (List.mem_of_getElem? e)
theorem idx_ws {h : Hp} {k : Nat} (hk : k < h.ws.length) : idx h.ws (k : Int) = some (h.ws.getD k 0) := by
  have e : h.ws[k]? = some (h.ws.getD k 0) := by rw [List.getD_eq_getElem?_getD, List.getElem?_eq_getElem hk]; rfl
  unfold idx
  rw [if_pos (by omega), Int.toNat_natCast, e]

def fieldP (h : Hp) (k : Int) : Option (Nat × Int × Int × Int) → Int × Int
  | none => (0, 22)
  | some (b, x) => if x.1 = 0 then (if 0 ≤ k ∧ k < x.2.2 then (h.ws.getD (b + 2 + k.toNat) 0, 0) else (0, 20)) else (0, 22)
theorem fieldV_eq (h : Hp) (k : Int) (o) : fieldV h k o = .tup [U (fieldP h k o).1, Er (fieldP h k o).2] := by
  unfold fieldV fieldP
  cases o with
  | none => rfl
  | some bx =>
    obtain ⟨b, x⟩ := bx
    simp only
    by_cases h1 : x.1 = 0
    · by_cases h2 : 0 ≤ k ∧ k < x.2.2
      · simp only [if_pos h1, if_pos h2]
      · simp only [if_pos h1, if_neg h2]
    · simp only [if_neg h1]
theorem field_lt {h : Hp} {w : Int} {b : Nat} {x : Int × Int × Int} (hrec : h.recAt w = some (b, x)) {k : Int} (h1 : x.1 = 0) (h2 : 0 ≤ k) (h3 : k < x.2.2) (hlen : h.ws.length = 2 * h.half + 1) : b + 2 + k.toNat < h.ws.length := by
  obtain ⟨b1, b2, b3, hcan, _⟩ := recAt_le hrec
  have hsz := size_can hcan
  unfold body at hsz
  rw [if_neg (by omega)] at hsz
  omega
theorem fieldR16 (F : Nat) (h : Hp) (ok : h.Ok) (hws : Wd h) (w k : Int) (h0 : In64 w) :
    M.R16_Heap_Field F (toR h) w k = some (fieldP h k (h.recAt w)) := by
  unfold M.R16_Heap_Field
  rw [fieldR F h ok hws w k h0.1 h0.2]
  cases hrec : h.recAt w with
  | none => rfl
  | some bx =>
    obtain ⟨b, x⟩ := bx
    simp only [Option.bind_some, fieldP]
    by_cases h1 : x.1 = 0
    · by_cases h2 : 0 ≤ k ∧ k < x.2.2
      · have hl := field_lt hrec h1 h2.1 h2.2 ok.len
        simp only [if_pos h1, if_pos h2]
        have e : ((b : Int) + 2 + k) = ((b + 2 + k.toNat : Nat) : Int) := by omega
        rw [show (toR h).H.Words = h.ws from rfl, e, idx_ws hl]
        rfl
      · simp only [if_pos h1, if_neg h2]; rfl
    · simp only [if_neg h1]; rfl

theorem textLoop (F : Nat) (h : Hp) (ok : h.Ok) {b k : Nat} {x : Int × Int × Int} (hk : x.2.2 = k) (hk64 : k ≤ 64) {l : List Int} (hl : (h.ws.drop (b + 2)).take ((k + 7) / 8) = l) (hll : l.length = (k + 7) / 8) (hb : b + 2 + (k + 7) / 8 ≤ h.ws.length) :
    ∀ (m q : Nat), q ≤ k → k - q < m → M.R16_Heap_Text_L0 F (toR h) (⟨x.1, x.2.1, x.2.2⟩, (b : Int), true) m q (unps l q ++ List.replicate (k - q) 0) = some (unps l k, 0) := by
  have hhi := ok.hi
  have hlen := ok.len
  intro m
  induction m with
  | zero => intro q _ h2; omega
  | succ m ih =>
    intro q hq hm
    rw [M.R16_Heap_Text_L0]
    simp only [hk]
    by_cases hlt : q < k
    · have d1 : decide ((q : Int) < (k : Int)) = true := by simp; omega
      have e8 : (q : Int).tdiv 8 = ((q / 8 : Nat) : Int) := by rw [Int.tdiv_eq_ediv_of_nonneg (by omega)]; omega
      have m8 : (q : Int).tmod 8 = ((q % 8 : Nat) : Int) := by rw [Int.tmod_eq_emod_of_nonneg (by omega)]; omega
      have hq8 : q / 8 < (k + 7) / 8 := by omega
      rw [d1, e8, m8, wrap64_id (x := (b : Int) + 2) (by omega) (by omega), wrap64_id (x := ((q / 8 : Nat) : Int)) (by omega) (by omega), wrap64_id (x := (b : Int) + 2 + ((q / 8 : Nat) : Int)) (by omega) (by omega)]
      have e1 : ((b : Int) + 2 + ((q / 8 : Nat) : Int)) = ((b + 2 + q / 8 : Nat) : Int) := by omega
      rw [show (toR h).H.Words = h.ws from rfl, e1, idx_ws (by omega), wrap64_id (x := 8 * ((q % 8 : Nat) : Int)) (by omega) (by omega), wrapu64_id (x := 8 * ((q % 8 : Nat) : Int)) (by omega) (by omega)]
      have e2 : (8 * ((q % 8 : Nat) : Int)) = ((8 * (q % 8) : Nat) : Int) := by omega
      have hul : (unps l q).length = q := by simp [unps]
      have e3 : idx (unps l q ++ List.replicate (k - q) (0 : Int)) (q : Int) = some 0 := by
        unfold idx
        rw [if_pos (by omega), Int.toNat_natCast, List.getElem?_append_right (by omega), hul, Nat.sub_self, List.getElem?_replicate, if_pos (by omega)]
      have e4 : l.getD (q / 8) 0 = h.ws.getD (b + 2 + q / 8) 0 := by
        rw [← hl, List.getD_eq_getElem?_getD, List.getElem?_take_of_lt hq8, List.getElem?_drop, List.getD_eq_getElem?_getD]
      have e5 : (unps l q ++ List.replicate (k - q) (0 : Int)).set q (unp l q) = unps l (q + 1) ++ List.replicate (k - (q + 1)) 0 := by
        rw [List.set_append_right _ _ (by omega), hul, Nat.sub_self]
        obtain ⟨j, hj⟩ : ∃ j, k - q = j + 1 := ⟨k - q - 1, by omega⟩
        rw [hj, show k - (q + 1) = j by omega, List.replicate_succ, List.set_cons_zero]
        have : unps l (q + 1) = unps l q ++ [unp l q] := by simp [unps, List.range'_concat]
        rw [this, List.append_assoc]
        rfl
      rw [e2]
      simp only [cond_true, Option.bind_some, shrM, shrI, e3]
      rw [if_neg (by omega)]
      simp only [Option.bind_some]
      have w1 : IntKind.i64.wrap ((q : Int) + 1) = ((q + 1 : Nat) : Int) := by rw [wrap64_id (by omega) (by omega)]; omega
      rw [w1, Int.toNat_natCast]
      have e6 : IntKind.u8.wrap ((h.ws.getD (b + 2 + q / 8) 0).fdiv (2 ^ min ((8 * (q % 8) : Nat) : Int).toNat IntKind.u64.bits)) = unp l q := by
        unfold unp
        rw [e4, Int.toNat_natCast]; rfl
      rw [e6, e5]
      have := ih (q + 1) (by omega) (by omega)
      rw [hk] at this
      exact this
    · have d1 : decide ((q : Int) < (k : Int)) = false := by simp; omega
      have hqk : q = k := by omega
      rw [d1, hqk]
      simp

def textP (h : Hp) : Option (Nat × Int × Int × Int) → List Int × Int
  | none => ([], 22)
  | some (b, x) => if x.1 = 1 then (unps ((h.ws.drop (b + 2)).take (body x.1 x.2.2)) x.2.2.toNat, 0) else ([], 22)
theorem textR16 (F : Nat) (hF : 100 ≤ F) (h : Hp) (ok : h.Ok) (hws : Wd h) (w : Int) (h0 : In64 w) :
    M.R16_Heap_Text F (toR h) w = some (textP h (h.recAt w)) := by
  unfold M.R16_Heap_Text
  rw [recordR F h ok hws w h0.1 h0.2]
  cases hrec : h.recAt w with
  | none => rfl
  | some bx =>
    obtain ⟨b, x⟩ := bx
    obtain ⟨b1, b2, b3, hcan, _⟩ := recAt_le hrec
    have hsz := size_can hcan
    have hlen := ok.len
    simp only [Option.bind_some, textP]
    by_cases h1 : x.1 = 1
    · have e0 : (x.1 != 1) = false := by simp [h1]
      have hcz : 0 ≤ x.2.2 ∧ x.2.2 ≤ 64 := by unfold Can at hcan; omega
      obtain ⟨k, hk⟩ := Int.eq_ofNat_of_zero_le hcz.1
      have hbd : body x.1 x.2.2 = (k + 7) / 8 := by simp [body, h1, hk]
      simp only [e0, Bool.not_true, Bool.or_self, cond_false, if_pos h1]
      have hm : makM 1 (0 : Int) x.2.2 = some (List.replicate k 0) := by
        unfold makM
        rw [if_pos (by unfold roomMax; omega), hk]; rfl
      rw [hm, hbd, hk, Int.toNat_natCast]
      simp only [Option.bind_some]
      have := textLoop F h ok (b := b) (k := k) (x := x) hk (by omega) (l := (h.ws.drop (b + 2)).take ((k + 7) / 8)) rfl (by rw [List.length_take, List.length_drop]; omega) (by omega) F 0 (by omega) (by omega)
      rw [hk] at this
      simpa [unps] using this
    · have e0 : (x.1 != 1) = true := by simp [h1]
      simp only [e0, Bool.or_true, cond_true, if_neg h1]

theorem putRQ {H : Mem} {n p i : Nat} {c : Option Nat} {h : Hp} (s : StR H n p i c h) (x : Int × Int × Int) (l : List Int) (hl : l.length ≤ 9223372036854775807) :
    RunQ Try.prog T.T 123 [.own p 0, hd x.1 x.2.1 x.2.2, .ssl (encs eU l) l.length false] H n (fun r H' n' => if Can x.1 x.2.1 x.2.2 ∧ l.length = body x.1 x.2.2 ∧ size x.1 x.2.1 x.2.2 ≤ h.room then r = .tup [U (2 * h.next : Nat), I 0] ∧ StepR H n p i c H' n' (laid h x l)
      else r = .tup [U 0, I (if Can x.1 x.2.1 x.2.2 ∧ l.length = body x.1 x.2.2 then 21 else 19)] ∧ Calm H n H' n') := by
  by_cases h1 : Can x.1 x.2.1 x.2.2 ∧ l.length = body x.1 x.2.2
  · by_cases h2 : size x.1 x.2.1 x.2.2 ≤ h.room
    · simp only [if_pos (show Can x.1 x.2.1 x.2.2 ∧ l.length = body x.1 x.2.2 ∧ size x.1 x.2.1 x.2.2 ≤ h.room from ⟨h1.1, h1.2, h2⟩)]
      exact putR3 s x l h1.1 h1.2 h2
    · simp only [if_neg (fun e : Can x.1 x.2.1 x.2.2 ∧ l.length = body x.1 x.2.2 ∧ size x.1 x.2.1 x.2.2 ≤ h.room => h2 e.2.2), if_pos h1]
      exact putR2 s x l h1.1 h1.2 h2
  · simp only [if_neg (fun e : Can x.1 x.2.1 x.2.2 ∧ l.length = body x.1 x.2.2 ∧ size x.1 x.2.1 x.2.2 ≤ h.room => h1 ⟨e.1, e.2.1⟩), if_neg h1]
    exact putR1 s x l hl h1

/-- Both heaps stand alike. -/
structure Two (H : Mem) (n p i : Nat) (c : Option Nat) (p' i' : Nat) (c' : Option Nat) (h : Hp) : Prop where
  a : St H n p i c h
  b : StR H n p' i' c' h
  pp : p ≠ p'
  pi : p ≠ i'
  ip : i ≠ p'
  ii : i ≠ i'
  wd : Wd h
theorem Two.far {H H' : Mem} {n n' p i p' i' : Nat} {c c' : Option Nat} {h : Hp} (s : Two H n p i c p' i' c' h) (hn : n ≤ n') (hk : ∀ j, j < n → H' j = H j) : Two H' n' p i c p' i' c' h :=
  ⟨s.a.far hn hk, s.b.far hn hk, s.pp, s.pi, s.ip, s.ii, s.wd⟩
/-- One is led on, then the other. -/
theorem Two.on {H H1 H2 : Mem} {n n1 n2 p i p' i' : Nat} {c c' : Option Nat} {h h' : Hp} (s : Two H n p i c p' i' c' h) (s1 : Step H n p i c H1 n1 h') (s2 : StepR H1 n1 p' i' c' H2 n2 h') (w : Wd h') : Two H2 n2 p i c p' i' c' h' :=
  ⟨⟨by rw [s2.keep p s1.st.lp s.pp s.pi]; exact s1.st.hp, by rw [s2.keep i s1.st.li s.ip s.ii]; exact s1.st.hw, by have := s1.st.lp; have := s2.le; omega, by have := s1.st.li; have := s2.le; omega, s1.st.ne, s1.st.hc, s1.st.ok⟩, s2.st, s.pp, s.pi, s.ip, s.ii, w⟩
theorem Two.mid {H H1 : Mem} {n n1 p i p' i' : Nat} {c c' : Option Nat} {h h' : Hp} (s : Two H n p i c p' i' c' h) (s1 : Step H n p i c H1 n1 h') : StR H1 n1 p' i' c' h :=
  ⟨by rw [s1.keep p' s.b.lp (Ne.symm s.pp) (Ne.symm s.ip)]; exact s.b.hp, by rw [s1.keep i' s.b.li (Ne.symm s.pi) (Ne.symm s.ii)]; exact s.b.hw, by have := s.b.lp; have := s1.le; omega, by have := s.b.li; have := s1.le; omega, s.b.ne, s.b.hc, s.b.ok⟩

theorem Wd.set {h : Hp} (g : Wd h) (k : Nat) {v : Int} (hv : In64 v) : ∀ u ∈ h.ws.set k v, In64 u := fun u hu => by
  rcases List.mem_or_eq_of_mem_set hu with h1 | h1
  · exact g u h1
  · rw [h1]; exact hv
theorem in_putL {ws l : List Int} {a : Nat} {P : Int → Prop} (h1 : ∀ v ∈ ws, P v) (h2 : ∀ v ∈ l, P v) : ∀ v ∈ putL ws a l, P v := fun v hv => by
  unfold putL at hv
  rw [List.mem_append, List.mem_append] at hv
  rcases hv with hv | hv | hv
  · exact h1 v (List.mem_of_mem_take hv)
  · exact h2 v hv
  · exact h1 v (List.mem_of_mem_drop hv)
theorem hv_in {k t c : Int} (h : Can k t c) : In64 (hv k t c) := by unfold Can at h; unfold hv In64; omega
end Go.Proofs.Ytfflojbgikfbmaa.Hea

/-
  The document's heap: Text, its bytes one's own.
-/
namespace Go.Proofs.Ytfflojbgikfbmaa.Hea
open Go.Proofs.YtfflojbgikfbmaaW.Ah
open Go.Proofs.Ytfflojbgikfbmaa.Sta (U Er eU wrap_nsub wrap_pred load_u)
set_option maxRecDepth 4000
set_option linter.unusedVariables false
set_option linter.unusedSimpArgs false
attribute [local simp] T.t3 T.t4 T.t5 T.t9 T.t26 T.t34 T.t35 T.t39 T.t40 T.t62 T.t63 T.t70 T.t93 T.t144 T.t148 T.t108 T.t176 Op.maxDepth List.range List.range.loop
attribute [-simp] appendAV cellsOf cellOk partOk
attribute [local simp] cellsOf_sc cellOk_sc partOk_sc cellsOf_own cellOk_own partOk_own cellsOf_osl cellOk_osl partOk_osl cellsOf_sh cellOk_sh partOk_sh cellsOf_ssl cellOk_ssl partOk_ssl cellsOf_esl cellOk_esl partOk_esl cellsOf_fn cellOk_fn partOk_fn cellsOf_omap cellOk_omap partOk_omap cellsOf_agg partOk_agg cellsOf_slv cellOk_slv partOk_slv

theorem textRN {H : Mem} {n p i : Nat} {c : Option Nat} {h : Hp} (s : StR H n p i c h) (hws : Wd h) {w : Int} (hw : In64 w) (hn1 : ∀ b x, h.recAt w = some (b, x) → x.1 ≠ 1) :
    RunQ Try.prog T.T 126 [.own p 0, U w] H n (fun r H' n' => r = .tup [.sc (.slice none 0 0), I 22] ∧ Calm H n H' n') := by
  have hR := M.ok_R16_Heap_record 0 (toR h) w _ (recordR 0 h s.ok hws w hw.1 hw.2)
  cases hrec : h.recAt w with
  | none =>
    have hR2 : RunF Try.prog T.T 145 [.sh (M.c176 (toR h)), U w] (.tup [hd 0 0 0, I 0, B false]) := by have := hR; rw [hrec] at this; exact this
    refine RunQ.ev 99 Try.func126 rfl rfl rfl rfl rfl fun C hr hn => ?_
    simp
    refine Stk.callB 8 [p, i] hR2 rfl rfl rfl (by simp) (.cons (viewR s) (.free rfl)) rfl ?_
    simp
    iterate 4 (try (refine evS_sound (f := 8) ?_; simp [partOf]))
    exact hr _ _ _ (.tup [.sc (.slice none 0 0), I 22]) (by simp) ⟨rfl, by omega, fun j hj => by simp [show j ≠ n by omega]⟩
  | some bx =>
    obtain ⟨b, x⟩ := bx
    have hx := hn1 b x hrec
    have hxb : (x.1 == 1) = false := by simp [hx]
    have hxb' : (x.1 != 1) = true := by simp [hx]
    have hR2 : RunF Try.prog T.T 145 [.sh (M.c176 (toR h)), U w] (.tup [hd x.1 x.2.1 x.2.2, I b, B true]) := by have := hR; rw [hrec] at this; exact this
    refine RunQ.ev 99 Try.func126 rfl rfl rfl rfl rfl fun C hr hn => ?_
    simp
    refine Stk.callB 8 [p, i] hR2 rfl rfl rfl (by simp) (.cons (viewR s) (.free rfl)) rfl ?_
    simp [partOf, splice]
    iterate 4 (try (refine evS_sound (f := 8) ?_; simp [partOf, splice, hxb, hxb', hx]))
    exact hr _ _ _ (.tup [.sc (.slice none 0 0), I 22]) (by simp) ⟨rfl, by omega, fun j hj => by simp [show j ≠ n by omega]⟩

theorem textRY {H : Mem} {n p i : Nat} {c : Option Nat} {h : Hp} (s : StR H n p i c h) (hws : Wd h) {w : Int} (hw : In64 w) {b : Nat} {x : Int × Int × Int} (hrec : h.recAt w = some (b, x)) (h1 : x.1 = 1) {l : List Int} (hl : (h.ws.drop (b + 2)).take (body x.1 x.2.2) = l) (hll : l.length = body x.1 x.2.2) :
    RunQ Try.prog T.T 126 [.own p 0, U w] H n (fun r H' n' => ∃ j, r = .tup [.osl j 0 x.2.2.toNat (some x.2.2.toNat), I 0] ∧ n ≤ j ∧ j < n' ∧ H' j = some (.cells (encs eY (unps l x.2.2.toNat)) 5) ∧ Calm H n H' n') := by
  have hR := M.ok_R16_Heap_record 0 (toR h) w _ (recordR 0 h s.ok hws w hw.1 hw.2)
  have hR2 : RunF Try.prog T.T 145 [.sh (M.c176 (toR h)), U w] (.tup [hd x.1 x.2.1 x.2.2, I b, B true]) := by have := hR; rw [hrec] at this; exact this
  obtain ⟨b1, b2, b3, hcan, _⟩ := recAt_le hrec
  have hsz := size_can hcan
  have hcz : 0 ≤ x.2.2 ∧ x.2.2 ≤ 64 := by unfold Can at hcan; omega
  obtain ⟨k, hk⟩ := Int.eq_ofNat_of_zero_le hcz.1
  have hbd : body x.1 x.2.2 = (k + 7) / 8 := by simp [body, h1, hk]
  rw [hbd] at hl hll hsz
  have hlen := s.ok.len
  have hhi := s.ok.hi
  have hlp := s.lp
  have hli := s.li
  rw [hk, Int.toNat_natCast]
  have hr1 : k ≤ roomMax := by unfold roomMax; omega
  have hr2 : (k : Int) ≤ (roomMax : Nat) := by omega
  refine RunQ.ev 99 Try.func126 rfl rfl rfl rfl rfl fun C hr hn => ?_
  simp
  refine Stk.callB 8 [p, i] hR2 rfl rfl rfl (by simp) (.cons (viewR s) (.free rfl)) rfl ?_
  simp [partOf, splice, h1]
  iterate 6 (try (refine evS_sound (f := 8) ?_; simp [partOf, splice, h1, hk, hr1, hr2]))
  refine Stk.loop 9 (fun μ t H2 n2 => ∃ q : Nat, q ≤ k ∧ μ = k - q ∧ t 0 = .own p 0 ∧ t 6 = .own n 0 ∧ t 7 = I b ∧ t 9 = .osl (n + 1) 0 k (some k) ∧ t 10 = I q ∧ H2 (n + 1) = some (.cells (encs eY (unps l q ++ List.replicate (k - q) 0)) 5) ∧ H2 n = some (.cells [I x.1, I x.2.1, I k] 34) ∧ (∀ j, j < n → H2 j = H j) ∧ n2 = n + 1 + 1) k ?_ ?_
  · exact ⟨0, Nat.zero_le _, rfl, by simp, by simp, by simp, by simp, by simp, by simp [encsY_map, unps], by simp [h1, hk], fun j hj => by simp [show ¬ j = n + 1 by omega, show ¬ j = n by omega], rfl⟩
  rintro J2 hJ2 μ t H2 n2 ⟨q, hq, rfl, t0, t6, t7, t9, t10, h2, h2n, hfr, rfl⟩
  have hp2 : H2 p = some (.cells [.osl i 0 (2 * h.half + 1) c, I h.half, B h.up, I h.next, B h.on, I h.scan] 176) := by rw [hfr p hlp]; exact s.hp
  have hw2 : H2 i = some (.cells (encs eU h.ws) 40) := by rw [hfr i hli]; exact s.hw
  by_cases hlt : q < k
  · have hlti : (q : Int) < (k : Int) := by omega
    have w1 := wrap_succ q (by omega)
    obtain ⟨a, ha⟩ : ∃ a, a = q / 8 := ⟨_, rfl⟩
    obtain ⟨e, he⟩ : ∃ e, e = 8 * (q % 8) := ⟨_, rfl⟩
    obtain ⟨f, hf⟩ : ∃ f, f = b + 2 + a := ⟨_, rfl⟩
    obtain ⟨b2', hb2⟩ : ∃ b2, b2 = b + 2 := ⟨_, rfl⟩
    have ham : a < (k + 7) / 8 := by omega
    have wb2 : IntKind.i64.wrap ((b : Int) + 2) = (b2' : Int) := by rw [wrap64_id (by omega) (by omega)]; omega
    have w2 : IntKind.i64.wrap ((q : Int).tdiv 8) = (a : Int) := by
      rw [Int.tdiv_eq_ediv_of_nonneg (by omega), wrap64_id (by omega) (by omega)]; omega
    have w2' : IntKind.i64.wrap ((q : Int) / 8) = (a : Int) := by
      rw [wrap64_id (by omega) (by omega)]; omega
    have wf : IntKind.i64.wrap ((b2' : Int) + (a : Int)) = (f : Int) := by rw [wrap64_id (by omega) (by omega)]; omega
    have w3 : IntKind.i64.wrap (8 * ((q : Int).tmod 8)) = (e : Int) := by
      rw [Int.tmod_eq_emod_of_nonneg (by omega), wrap64_id (by omega) (by omega)]; omega
    have w3' : IntKind.i64.wrap (8 * ((q : Int) % 8)) = (e : Int) := by
      rw [wrap64_id (by omega) (by omega)]; omega
    have we : IntKind.u64.wrap (e : Int) = (e : Int) := wrapu64_id (by omega) (by omega)
    have hfl : f < 2 * h.half + 1 := by omega
    have hfli : (f : Int) < 2 * (h.half : Int) + 1 := by omega
    have hld := ldw (ws := h.ws) (k := f) (by omega)
    have hge : h.ws.getD f 0 = l.getD a 0 := by
      rw [← hl, List.getD_eq_getElem?_getD, List.getD_eq_getElem?_getD, List.getElem?_take, if_pos ham, List.getElem?_drop, hf]
    rw [hge] at hld
    have hn0 : ¬ (e : Int) < 0 := by omega
    have hn0' : (0 : Int) ≤ (e : Int) := by omega
    have hu : IntKind.u8.wrap ((l.getD a 0).fdiv (2 ^ (min e IntKind.u64.bits))) = unp l q := by rw [ha, he]; rfl
    have hlu : q + 1 ≤ (unps l q).length + (k - q) := by simp [unps]; omega
    obtain ⟨W, hW⟩ : ∃ W, W = l.getD a 0 := ⟨_, rfl⟩
    rw [← hW] at hld hu
    have hopt : (encs eU h.ws)[f]? = some (U W) := by
      rw [encs_map, List.getElem?_map, List.getElem?_eq_getElem (by omega : f < h.ws.length), hW, ← hge, List.getD_eq_getElem?_getD, List.getElem?_eq_getElem (by omega : f < h.ws.length)]; rfl
    have hset : List.take q (encs eY (unps l q ++ List.replicate (k - q) 0)) ++ (.sc (.int .u8 (unp l q)) :: List.drop (q + 1) (encs eY (unps l q ++ List.replicate (k - q) 0))) = encs eY (unps l (q + 1) ++ List.replicate (k - (q + 1)) 0) := by
      have hlen : (unps l q).length = q := by simp [unps]
      have e1 : unps l (q + 1) = unps l q ++ [unp l q] := by simp [unps, List.range'_concat]
      have e2 : List.replicate (k - q) (0 : Int) = 0 :: List.replicate (k - (q + 1)) 0 := by
        rw [show k - q = (k - (q + 1)) + 1 by omega, List.replicate_succ]
      rw [e1, e2, encs_append, encs_append, encs_append, encs_cons]
      have hle : (encs eY (unps l q)).length = q := by rw [encsY_map, List.length_map, hlen]
      rw [List.take_left' hle, show q + 1 = (encs eY (unps l q)).length + 1 by rw [hle], List.drop_append]
      simp [List.drop_length, encsY_map, hlen]
    simp [t0, t6, t7, t9, t10, h2n, hlti, hlt, partOf]
    iterate 8 (try (refine evS_sound (f := 8) ?_; simp [t0, t6, t7, t9, t10, h2n, h2, hp2, hw2, hopt, w1, w2, w2', w3, w3', wf, wb2, we, hfl, hfli, hlti, hlt, hn0, hn0', hu, hlu, hset, partOf]))
    exact ⟨k - (q + 1), by omega, hJ2 _ _ _ _ ⟨q + 1, hlt, rfl, by simp [t0], by simp [t6], by simp [t7], by simp [t9], by simp [w1], by simp, by simp [h2n], fun j hj => by rw [upd_ne _ _ (by omega), hfr j hj], rfl⟩⟩
  · have hqk : q = k := by omega
    subst hqk
    simp [t0, t6, t7, t9, t10, h2n, partOf]
    iterate 3 (try (refine evS_sound (f := 8) ?_; simp [t9]))
    refine hr _ _ _ (.tup [.osl (n + 1) 0 q (some q), I 0]) (by simp) ⟨n + 1, rfl, by omega, by omega, ?_, by omega, hfr⟩
    rw [h2]; simp
end Go.Proofs.Ytfflojbgikfbmaa.Hea
