/-
  The document's heap: Put.
-/
import Derived.Test.YtfflojbgikfbmaaKN2
namespace Go.Proofs.Ytfflojbgikfbmaa.Hea
open Go.Proofs.YtfflojbgikfbmaaW.Ah
open Go.Proofs.Ytfflojbgikfbmaa.Sta (U Er eU wrap_nsub wrap_pred load_u)
set_option maxRecDepth 4000
set_option linter.unusedVariables false
set_option linter.unusedSimpArgs false
attribute [local simp] T.t3 T.t4 T.t5 T.t9 T.t26 T.t34 T.t35 T.t39 T.t40 T.t62 T.t63 T.t70 T.t93 T.t144 T.t108 T.t176 Op.maxDepth List.range List.range.loop
attribute [-simp] appendAV cellsOf cellOk partOk
attribute [local simp] cellsOf_sc cellOk_sc partOk_sc cellsOf_own cellOk_own partOk_own cellsOf_osl cellOk_osl partOk_osl cellsOf_sh cellOk_sh partOk_sh cellsOf_ssl cellOk_ssl partOk_ssl cellsOf_esl cellOk_esl partOk_esl cellsOf_fn cellOk_fn partOk_fn cellsOf_omap cellOk_omap partOk_omap cellsOf_agg partOk_agg cellsOf_slv cellOk_slv partOk_slv



theorem sizeRF (x : Int × Int × Int) : RunF Try.prog T.T 36 [hd x.1 x.2.1 x.2.2] (I (size x.1 x.2.1 x.2.2)) := sizeR x.1 x.2.1 x.2.2

theorem putR1 {H : Mem} {n p i : Nat} {c : Option Nat} {h : Hp} (s : StR H n p i c h) (x : Int × Int × Int) (l : List Int) (hl : l.length ≤ 9223372036854775807) (hno : ¬ (Can x.1 x.2.1 x.2.2 ∧ l.length = body x.1 x.2.2)) :
    RunQ Try.prog T.T 123 [.own p 0, hd x.1 x.2.1 x.2.2, .ssl (encs eU l) l.length false] H n (fun r H' n' => r = .tup [U 0, I 19] ∧ Calm H n H' n') := by
  refine RunQ.ev 999 Try.func123 rfl rfl rfl rfl rfl fun C hr hn => ?_
  simp [partOf]
  refine Stk.callF 9 (canR x.1 x.2.1 x.2.2) rfl rfl rfl (by simp) rfl rfl ?_
  have fin : ∀ (t : Nat → AV) (H2 : Mem) (n2 : Nat), t 6 = U 0 → t 7 = I 19 → H2 = upd H n (some (.cells [I x.1, I x.2.1, I x.2.2] 34)) → n2 = n + 1 → C .ret t H2 n2 := fun t H2 n2 t6 t7 e1 e2 => hr _ _ _ (.tup [U 0, I 19]) (by simp [t6, t7]) ⟨rfl, by omega, fun j hj => by rw [e1, upd_ne _ _ (by omega)]⟩
  by_cases hc : Can x.1 x.2.1 x.2.2
  · have hsz := size_can hc
    have hbl := body_le hc
    have hlb : ¬ l.length = body x.1 x.2.2 := fun e => hno ⟨hc, e⟩
    have hw : IntKind.i64.wrap ((size x.1 x.2.1 x.2.2 : Int) - 2) = (body x.1 x.2.2 : Int) := by rw [wrap64_id (by omega) (by omega)]; omega
    have hne : ((l.length : Int) != (body x.1 x.2.2 : Int)) = true := by simp; omega
    simp [hc]
    iterate 2 (try (refine evS_sound (f := 8) ?_; simp [partOf]))
    refine Stk.callF 9 (sizeRF x) rfl rfl rfl (by simp) rfl rfl ?_
    simp [hw, hne]
    iterate 2 (try (refine evS_sound (f := 8) ?_; simp [hw, hne]))
    exact fin _ _ _ (by simp) (by simp) rfl rfl
  · simp [hc]
    iterate 3 (try (refine evS_sound (f := 8) ?_; simp))
    exact fin _ _ _ (by simp) (by simp) rfl rfl

theorem putR2 {H : Mem} {n p i : Nat} {c : Option Nat} {h : Hp} (s : StR H n p i c h) (x : Int × Int × Int) (l : List Int) (hc : Can x.1 x.2.1 x.2.2) (hlb : l.length = body x.1 x.2.2) (hno : ¬ size x.1 x.2.1 x.2.2 ≤ h.room) :
    RunQ Try.prog T.T 123 [.own p 0, hd x.1 x.2.1 x.2.2, .ssl (encs eU l) l.length false] H n (fun r H' n' => r = .tup [U 0, I 21] ∧ Calm H n H' n') := by
  have hsz := size_can hc
  have hbl := body_le hc
  have hlp := s.lp
  have hli := s.li
  have hw : IntKind.i64.wrap ((size x.1 x.2.1 x.2.2 : Int) - 2) = (body x.1 x.2.2 : Int) := by rw [wrap64_id (by omega) (by omega)]; omega
  have hne : ((l.length : Int) != (body x.1 x.2.2 : Int)) = false := by simp [hlb]
  have hlbi : (l.length : Int) = (body x.1 x.2.2 : Int) := by omega
  have hrm : (h.room : Int) < (size x.1 x.2.1 x.2.2 : Int) := by omega
  have hrm' : h.room < size x.1 x.2.1 x.2.2 := by omega
  refine RunQ.ev 999 Try.func123 rfl rfl rfl rfl rfl fun C hr hn => ?_
  simp [partOf]
  refine Stk.callF 9 (canR x.1 x.2.1 x.2.2) rfl rfl rfl (by simp) rfl rfl ?_
  obtain ⟨H1, hH1⟩ : ∃ H1 : Mem, H1 = upd H n (some (.cells [I x.1, I x.2.1, I x.2.2] 34)) := ⟨_, rfl⟩
  have hc1 : Calm H n H1 (n + 1) := ⟨by omega, fun j hj => by rw [hH1, upd_ne _ _ (by omega)]⟩
  have s1 := s.far hc1.1 hc1.2
  have h1n : H1 n = some (.cells [I x.1, I x.2.1, I x.2.2] 34) := by rw [hH1, upd_same]
  rw [← hH1]
  simp [hc, partOf, h1n]
  iterate 2 (try (refine evS_sound (f := 8) ?_; simp [partOf, h1n]))
  refine Stk.callF 9 (sizeRF x) rfl rfl rfl (by simp) rfl rfl ?_
  simp [hw, hne, hlb]
  iterate 1 (try (refine evS_sound (f := 8) ?_; simp [hw, hne, hlb]))
  refine Stk.regionD 99 [.rd [], .rd [p, i], .rd [n], .rd [], .rd []] none (by kernel_rfl) (by rfl) rfl (by simp [below]) rfl ?_
  simp
  refine Stk.callBD 9 [p, i] (M.ok_R16_Heap_Room 0 (toR h) _ (roomR 0 h s.ok)) rfl (fun j hj => hj) rfl rfl rfl rfl (by simp) (.cons (viewR s1) .nil) rfl ?_
  simp [h1n, partOf]
  refine Stk.callFD 9 (sizeRF x) rfl rfl rfl rfl rfl (by simp) rfl rfl ?_
  simp [hrm, hrm']
  iterate 2 (try (refine evS_sound (f := 8) ?_; simp [hrm, hrm']))
  exact hr _ _ _ (.tup [U 0, I 21]) (by simp) ⟨rfl, hc1⟩
end Go.Proofs.Ytfflojbgikfbmaa.Hea

/-
  The document's heap: Put where there is room.
-/
namespace Go.Proofs.Ytfflojbgikfbmaa.Hea
open Go.Proofs.YtfflojbgikfbmaaW.Ah
open Go.Proofs.Ytfflojbgikfbmaa.Sta (U Er eU wrap_nsub wrap_pred load_u)
set_option maxRecDepth 4000
set_option linter.unusedVariables false
set_option linter.unusedSimpArgs false
attribute [local simp] T.t3 T.t4 T.t5 T.t9 T.t26 T.t34 T.t35 T.t39 T.t40 T.t62 T.t63 T.t70 T.t93 T.t144 T.t108 T.t176 Op.maxDepth List.range List.range.loop
attribute [-simp] appendAV cellsOf cellOk partOk
attribute [local simp] cellsOf_sc cellOk_sc partOk_sc cellsOf_own cellOk_own partOk_own cellsOf_osl cellOk_osl partOk_osl cellsOf_sh cellOk_sh partOk_sh cellsOf_ssl cellOk_ssl partOk_ssl cellsOf_esl cellOk_esl partOk_esl cellsOf_fn cellOk_fn partOk_fn cellsOf_omap cellOk_omap partOk_omap cellsOf_agg partOk_agg cellsOf_slv cellOk_slv partOk_slv




noncomputable def body123 : Code := Try.f123.body.getD .skip

/-- The words are laid one by one. -/
theorem putLoop {H : Mem} {n p i : Nat} {c : Option Nat} {half next : Nat} {up on : Bool} {scan : Int} (ws l : List Int) (hlp : p < n) (hli : i < n) (hip : i ≠ p) (hws : ws.length = 2 * half + 1) (hhi : half ≤ 16384) (hfit : next + 2 + l.length ≤ ws.length)
    (hp : H p = some (.cells [.osl i 0 (2 * half + 1) c, I half, B up, I next, B on, I scan] 176)) (hw : H i = some (.cells (encs eU ws) 40)) (t : Nat → AV) (t0 : t 0 = .own p 0) (t2 : t 2 = .ssl (encs eU l) l.length false) (t8 : t 8 = I next) (C : Cont)
    (K : ∀ t' H', (∀ j, j < 9 → t' j = t j) → H' i = some (.cells (encs eU (putL ws (next + 2) l)) 40) → (∀ j, j ≠ i → H' j = H j) → Stk Try.prog T.T 89 (codes ((seqs body123).drop 10)) t' H' n C) :
    Stk Try.prog T.T 89 (codes ((seqs body123).drop 8)) t H n C := by
  refine Stk.cut (l' := (seqs body123).drop 10) [_, _] rfl fun J hJ => ?_
  refine evS_sound (f := 9) ?_
  simp [codes]
  refine Stk.loop 9 (fun μ t' H2 n2 => ∃ q : Nat, q ≤ l.length ∧ μ = l.length - q ∧ (∀ j, j < 9 → t' j = t j) ∧ t' 9 = I q ∧ H2 i = some (.cells (encs eU (putL ws (next + 2) (l.take q))) 40) ∧ (∀ j, j ≠ i → H2 j = H j) ∧ n2 = n) l.length ?_ ?_
  · exact ⟨0, Nat.zero_le _, rfl, fun j hj => by simp [upd, show ¬ j = 9 by omega], by simp, by simp [putL, hw], fun _ _ => rfl, rfl⟩
  rintro J2 hJ2 μ t1 H2 n2 ⟨q, hq, rfl, ht, t9, hi2, hk2, rfl⟩
  have e0 : t1 0 = .own p 0 := by rw [ht 0 (by decide)]; exact t0
  have e2 : t1 2 = .ssl (encs eU l) l.length false := by rw [ht 2 (by decide)]; exact t2
  have e8 : t1 8 = I next := by rw [ht 8 (by decide)]; exact t8
  have hp2 : H2 p = some (.cells [.osl i 0 (2 * half + 1) c, I half, B up, I next, B on, I scan] 176) := by rw [hk2 p (Ne.symm hip)]; exact hp
  by_cases hlt : q < l.length
  · have hlti : (q : Int) < l.length := by omega
    have hld := load_u l q hlt
    obtain ⟨v, hv⟩ : ∃ v, v = l[q] := ⟨_, rfl⟩
    rw [← hv] at hld
    have w1 : IntKind.i64.wrap ((next : Int) + 2) = ((next + 2 : Nat) : Int) := by rw [wrap64_id (by omega) (by omega)]; omega
    have w2 : IntKind.i64.wrap ((next : Int) + 2 + (q : Int)) = ((next + 2 + q : Nat) : Int) := by rw [wrap64_id (by omega) (by omega)]; omega
    obtain ⟨a, ha⟩ : ∃ a, a = next + 2 + q := ⟨_, rfl⟩
    have w2' : IntKind.i64.wrap (((next + 2 : Nat) : Int) + (q : Int)) = (a : Int) := by rw [wrap64_id (by omega) (by omega)]; omega
    have wq := wrap_succ q (by omega)
    obtain ⟨b, hb⟩ : ∃ b, b = next + 2 := ⟨_, rfl⟩
    rw [← hb] at w1 w2' hi2
    have hal : a < 2 * half + 1 := by omega
    have hali : (a : Int) < 2 * (half : Int) + 1 := by omega
    have hel : ∀ hq' : q < (encs eU l).length, (encs eU l)[q]'hq' = U v := fun hq' => by simp only [encs_map, List.getElem_map, hv]
    obtain ⟨ws', hws'⟩ : ∃ ws', ws' = putL ws b (l.take q) := ⟨_, rfl⟩
    have htq : (l.take q).length = q := by rw [List.length_take]; omega
    have hl' : ws'.length = 2 * half + 1 := by rw [hws', putL_len (by rw [htq]; omega), hws]
    have hset : List.take a (encs eU ws') ++ U v :: List.drop (a + 1) (encs eU ws') = encs eU (putL ws b (l.take (q + 1))) := by
      have h1 := splice_put (ws := ws') (l := [v]) (a := a) (by simp; omega)
      have h2 := putL_put (ws := ws) (l1 := l.take q) (l2 := [v]) (a := b) (by simp; omega)
      rw [htq] at h2
      have h3 : l.take (q + 1) = l.take q ++ [v] := by rw [List.take_succ_eq_append_getElem hlt, hv]
      rw [h3, ← h2, ← hws', show b + q = a by omega, ← h1, show encs eU [v] = [U v] from rfl]
      simp [splice]
    rw [← hws'] at hi2
    have ha1 : a + 1 ≤ ws'.length := by omega
    simp [e2, t9, hlt, hlti]
    refine evS_sound (f := 3) ?_
    simp
    refine Stk.regionD 99 [.rd [], .rd [], .rd [], .rd [], .rd [p], .rd [], .rd [], .rd [], .rd [], .rd [], .rd [], .rd [], .rd [], .rd [], .mem [i] n2] none (by kernel_rfl) (by rfl) rfl (by simp [below]; omega) rfl ?_
    simp [e0, e2, e8, t9, hp2, hi2, hld, w1, w2', hal, hali, hlt, hlti, partOf, splice, hel, ha1, hset]
    refine ⟨fun j _ h1 h2 => absurd h2 h1, ?_⟩
    exact ⟨l.length - (q + 1), by omega, hJ2 _ _ _ _ ⟨q + 1, hlt, rfl, fun j hj => by simp [upd, show ∀ m : Nat, 9 < m → ¬ j = m from fun m hm => by omega, show ¬ j = 9 by omega, ht j hj], by simp [wq], by rw [upd_same, hb], fun j hj => by rw [upd_ne _ _ hj, hk2 j hj], rfl⟩⟩
  · have hq2 : q = l.length := by omega
    subst hq2
    simp [e2, t9]
    iterate 2 (try (refine evS_sound (f := 9) ?_; simp))
    rw [List.take_of_length_le (Nat.le_refl _)] at hi2
    exact hJ _ _ _ (K _ _ (fun j hj => by simp [upd, show ∀ m : Nat, 9 < m → ¬ j = m from fun m hm => by omega, ht j hj]) hi2 hk2)
end Go.Proofs.Ytfflojbgikfbmaa.Hea

/-
  The document's heap: Put where there is room.
-/
namespace Go.Proofs.Ytfflojbgikfbmaa.Hea
open Go.Proofs.YtfflojbgikfbmaaW.Ah
open Go.Proofs.Ytfflojbgikfbmaa.Sta (U Er eU wrap_nsub wrap_pred load_u)
set_option maxRecDepth 4000
set_option linter.unusedVariables false
set_option linter.unusedSimpArgs false
attribute [local simp] T.t3 T.t4 T.t5 T.t9 T.t26 T.t34 T.t35 T.t39 T.t40 T.t62 T.t63 T.t70 T.t93 T.t144 T.t108 T.t176 Op.maxDepth List.range List.range.loop
attribute [-simp] appendAV cellsOf cellOk partOk
attribute [local simp] cellsOf_sc cellOk_sc partOk_sc cellsOf_own cellOk_own partOk_own cellsOf_osl cellOk_osl partOk_osl cellsOf_sh cellOk_sh partOk_sh cellsOf_ssl cellOk_ssl partOk_ssl cellsOf_esl cellOk_esl partOk_esl cellsOf_fn cellOk_fn partOk_fn cellsOf_omap cellOk_omap partOk_omap cellsOf_agg partOk_agg cellsOf_slv cellOk_slv partOk_slv

theorem head16 (k t c : Int) (hc : Can k t c) : M.R16_Head 0 ⟨k, t, c⟩ = some (hv k t c, true) := by
  unfold M.R16_Head
  rw [canR16, decide_eq_true hc]
  simp only [Option.bind_some, Bool.not_true, cond_false]
  have h2 := hc
  unfold Can at h2
  unfold hv
  rw [wrapu64_id (x := c) (by omega) (by omega), wrapu64_id (x := t) (by omega) (by omega), wrapu64_id (x := k) (by omega) (by omega), wrapu64_id (x := 256 * t) (by omega) (by omega), wrapu64_id (x := c + 256 * t) (by omega) (by omega), wrapu64_id (x := 65536 * k) (by omega) (by omega), wrapu64_id (by omega) (by omega)]
  congr 2
  omega
theorem headR (x : Int × Int × Int) (hc : Can x.1 x.2.1 x.2.2) : RunF Try.prog T.T 56 [hd x.1 x.2.1 x.2.2] (.tup [U (hv x.1 x.2.1 x.2.2), B true]) := M.ok_R16_Head 0 ⟨x.1, x.2.1, x.2.2⟩ _ (head16 x.1 x.2.1 x.2.2 hc)
theorem ptrR16 (a : Nat) (h : a < 2147483648) : M.R01_Ptr 0 (a : Int) = some ((2 * a : Nat) : Int) := by
  unfold M.R01_Ptr
  rw [wrapu64_id (x := (a : Int)) (by omega) (by omega), wrapu64_id (by omega) (by omega)]
  congr 1
theorem ptrR (a : Nat) (h : a < 2147483648) : RunF Try.prog T.T 120 [.sc (.int .u32 a)] (U (2 * a : Nat)) := M.ok_R01_Ptr 0 a _ (ptrR16 a h)

theorem RunQ.parts {f : FuncId} {fn : Func} {c : Code} {args : List AV} {H : Mem} {n : Nat} {Z : AV → Mem → Nat → Prop} (h1 : Try.prog.funcs[f]? = some fn) (h2 : fn.body = some c) (h3 : (fn.name == "runtime.NumGoroutine") = false) {k : Nat} (hk : fn.ntmps = k) (h4 : Nat.ble args.length k = true) {rs : List ResultVar} (hrs : fn.results.toList = rs)
    (h : ∀ C : Cont, (∀ t H n r, resOf T.T rs ⟨t, H, n⟩ = some r → Z r H n → C .ret t H n) → (∀ t H n r, resOf T.T rs ⟨t, H, n⟩ = some r → Z r H n → C .normal t H n) → Stk Try.prog T.T k (codes (seqs c)) (initT args) H n C) : RunQ Try.prog T.T f args H n Z := by
  refine RunQ.ev 0 h1 h2 h3 hk h4 hrs fun C a b => ?_
  have := Stk.seqs c [] (by rw [List.append_nil]; exact h C a b)
  exact this

theorem set_putL {ws : List Int} {a : Nat} (h : a < ws.length) (v : Int) : ws.set a v = putL ws a [v] := by
  unfold putL
  rw [List.set_eq_take_append_cons_drop, if_pos h]
  rfl
theorem set_put {ws l : List Int} {a : Nat} (h : a + 2 + l.length ≤ ws.length) (v w : Int) : putL ((ws.set a v).set (a + 1) w) (a + 2) l = putL ws a (v :: w :: l) := by
  rw [set_putL (ws := ws.set a v) (by rw [List.length_set]; omega), set_putL (ws := ws) (by omega)]
  have h1 := putL_put (ws := ws) (l1 := [v]) (l2 := [w]) (a := a) (by simp; omega)
  have h2 := putL_put (ws := ws) (l1 := [v, w]) (l2 := l) (a := a) (by simp; omega)
  simp only [List.length_cons, List.length_nil, Nat.zero_add, List.cons_append, List.nil_append] at h1 h2
  rw [h1, h2]

theorem putR3 {H : Mem} {n p i : Nat} {c : Option Nat} {h : Hp} (s : StR H n p i c h) (x : Int × Int × Int) (l : List Int) (hc : Can x.1 x.2.1 x.2.2) (hlb : l.length = body x.1 x.2.2) (hr : size x.1 x.2.1 x.2.2 ≤ h.room) :
    RunQ Try.prog T.T 123 [.own p 0, hd x.1 x.2.1 x.2.2, .ssl (encs eU l) l.length false] H n (fun r H' n' => r = .tup [U (2 * h.next : Nat), I 0] ∧ StepR H n p i c H' n' (laid h x l)) := by
  have hsz := size_can hc
  have hbl := body_le hc
  have hlp := s.lp
  have hli := s.li
  have hne := s.ne
  have hhi := s.ok.hi
  have hto := s.ok.to
  have hlen := s.ok.len
  have hbeg := h.begin_le
  have hroom : h.room = h.begin + h.half - h.next := rfl
  have hw : IntKind.i64.wrap ((size x.1 x.2.1 x.2.2 : Int) - 2) = (body x.1 x.2.2 : Int) := by rw [wrap64_id (by omega) (by omega)]; omega
  have hlbi : (l.length : Int) = (body x.1 x.2.2 : Int) := by omega
  have hrm : ¬ (h.room : Int) < (size x.1 x.2.1 x.2.2 : Int) := by omega
  have hrm' : ¬ h.room < size x.1 x.2.1 x.2.2 := by omega
  refine RunQ.parts (c := body123) Try.func123 (by rfl) rfl rfl rfl rfl fun C hr hn => ?_
  refine Stk.cut (l' := (seqs body123).drop 8) [_, _, _, _, _, _, _, _] rfl fun J hJ => ?_
  refine evS_sound (f := 99) ?_
  simp [codes, partOf]
  refine Stk.callF 9 (canR x.1 x.2.1 x.2.2) rfl rfl rfl (by simp) rfl rfl ?_
  obtain ⟨H1, hH1⟩ : ∃ H1 : Mem, H1 = upd H n (some (.cells [I x.1, I x.2.1, I x.2.2] 34)) := ⟨_, rfl⟩
  have hc1 : Calm H n H1 (n + 1) := ⟨by omega, fun j hj => by rw [hH1, upd_ne _ _ (by omega)]⟩
  have s1 := s.far hc1.1 hc1.2
  have h1n : H1 n = some (.cells [I x.1, I x.2.1, I x.2.2] 34) := by rw [hH1, upd_same]
  rw [← hH1]
  simp [hc, partOf, h1n]
  iterate 2 (try (refine evS_sound (f := 8) ?_; simp [partOf, h1n]))
  refine Stk.callF 9 (sizeRF x) rfl rfl rfl (by simp) rfl rfl ?_
  simp [hw, hlb]
  iterate 1 (try (refine evS_sound (f := 8) ?_; simp [hw, hlb]))
  refine Stk.regionD 99 [.rd [], .rd [p, i], .rd [n], .rd [], .rd []] none (by kernel_rfl) (by rfl) rfl (by simp [below]) rfl ?_
  simp
  refine Stk.callBD 9 [p, i] (M.ok_R16_Heap_Room 0 (toR h) _ (roomR 0 h s.ok)) rfl (fun j hj => hj) rfl rfl rfl rfl (by simp) (.cons (viewR s1) .nil) rfl ?_
  simp [h1n, partOf]
  refine Stk.callFD 9 (sizeRF x) rfl rfl rfl rfl rfl (by simp) rfl rfl ?_
  simp [hrm, hrm']
  have hp1 : H1 p = some (.cells [.osl i 0 (2 * h.half + 1) c, I h.half, B h.up, I h.next, B h.on, I h.scan] 176) := s1.hp
  have hw1 := s1.hw
  obtain ⟨v, hv'⟩ : ∃ v, v = hv x.1 x.2.1 x.2.2 := ⟨_, rfl⟩
  have hnx : h.next < 2 * h.half + 1 := by omega
  have hnxi : (h.next : Int) < 2 * (h.half : Int) + 1 := by omega
  have hnx2 : h.next + 1 < 2 * h.half + 1 := by omega
  have hnx2i : (h.next : Int) + 1 < 2 * (h.half : Int) + 1 := by omega
  obtain ⟨pw, hpw⟩ : ∃ pw : Int, pw = ((2 * h.next : Nat) : Int) := ⟨_, rfl⟩
  have hpt := ptrR h.next (by omega)
  rw [← hpw] at hpt
  have hset1 := set_cells (l := h.ws) (k := h.next) (by omega) v
  have hset2 := set_cells (l := h.ws.set h.next v) (k := h.next + 1) (by rw [List.length_set]; omega) pw
  have hl1 : h.next + 1 ≤ h.ws.length := by omega
  have hl2 : h.next + 1 + 1 ≤ h.ws.length := by omega
  obtain ⟨a1, ha1⟩ : ∃ a1, a1 = h.next + 1 := ⟨_, rfl⟩
  have w1 : IntKind.i64.wrap ((h.next : Int) + 1) = (a1 : Int) := by rw [wrap64_id (by omega) (by omega)]; omega
  rw [← ha1] at hset2
  have ha1l : a1 < 2 * h.half + 1 := by omega
  have ha1li : (a1 : Int) < 2 * (h.half : Int) + 1 := by omega
  have ha1s : a1 + 1 ≤ (h.ws.set h.next v).length := by rw [List.length_set]; omega
  have ha1s' : a1 + 1 ≤ h.ws.length := by omega
  have w2 : IntKind.u32.wrap (h.next : Int) = (h.next : Int) := wrapu32_id (by omega) (by omega)
  iterate 1 (try (refine evS_sound (f := 8) ?_; simp [hp1, hw1, partOf]))
  have hdr := headR x hc
  rw [← hv'] at hdr
  refine Stk.regionD 99 [.rd [], .rd [], .rd [], .rd [], .rd [p], .rd [], .rd [n], .rd [], .rd [], .rd [], .rd [], .rd [], .mem [i] (n + 1)] none (by kernel_rfl) (by rfl) rfl (by simp [below]; omega) rfl ?_
  simp [hp1, h1n, partOf]
  refine Stk.callFD 9 hdr rfl rfl rfl rfl rfl (by simp) rfl rfl ?_
  simp [hp1, hw1, hnx, hnxi, hl1, hset1, splice, partOf]
  refine ⟨fun j _ h1 h2 => absurd h2 h1, ?_⟩
  refine evS_sound (f := 3) ?_
  simp
  refine Stk.regionD 99 [.rd [], .rd [], .rd [], .rd [], .rd [p], .rd [], .rd [], .rd [], .rd [], .rd [], .rd [], .mem [i] (n + 1)] none (by kernel_rfl) (by rfl) rfl (by simp [below]; omega) rfl ?_
  simp [hp1, partOf, hne, Ne.symm hne, w1, w2]
  refine Stk.callFD 9 hpt rfl rfl rfl rfl rfl (by simp [w2]) rfl rfl ?_
  have q1 : upd H1 i (some (.cells (encs eU (h.ws.set h.next v)) 40)) i = some (.cells (encs eU (h.ws.set h.next v)) 40) := upd_same _ _ _
  simp [w1, ha1l, ha1li, ha1s, ha1s', hset2, splice]
  refine ⟨fun j _ h1 h2 => absurd h2 h1, ?_⟩
  refine hJ _ _ _ (putLoop ((h.ws.set h.next v).set a1 pw) l (p := p) (i := i) (c := c) (half := h.half) (next := h.next) (up := h.up) (on := h.on) (scan := h.scan) (by omega) (by omega) hne (by simp [hlen]) hhi (by simp; omega) (by simp [hne, Ne.symm hne, hp1]) (by simp [hset2]) _ (by simp) (by simp [hlb]) (by simp) C fun t' H' ht' hi' hk' => ?_)
  have e0 : t' 0 = .own p 0 := by rw [ht' 0 (by decide)]; simp
  have e4 : t' 4 = .own n 0 := by rw [ht' 4 (by decide)]; simp
  have e8 : t' 8 = I h.next := by rw [ht' 8 (by decide)]; simp
  rw [ha1, set_put (by omega), hv', hpw] at hi'
  have hp2 : H' p = some (.cells [.osl i 0 (2 * h.half + 1) c, I h.half, B h.up, I h.next, B h.on, I h.scan] 176) := by rw [hk' p (Ne.symm hne)]; simp [hne, Ne.symm hne, hp1]
  have hn2 : H' n = some (.cells [I x.1, I x.2.1, I x.2.2] 34) := by rw [hk' n (by omega)]; simp [show ¬ n = i by omega, h1n]
  have hkk : ∀ j, j < n → j ≠ p → j ≠ i → H' j = H j := fun j h1 h2 h3 => by rw [hk' j h3]; simp [h3, hc1.2 j h1]
  clear hk' ht'
  have w3 : IntKind.i64.wrap ((h.next : Int) + (size x.1 x.2.1 x.2.2 : Int)) = ((h.next + size x.1 x.2.1 x.2.2 : Nat) : Int) := by rw [wrap64_id (by omega) (by omega)]; omega
  obtain ⟨ns, hns⟩ : ∃ ns, ns = h.next + size x.1 x.2.1 x.2.2 := ⟨_, rfl⟩
  rw [← hns] at w3
  refine Stk.cut (l' := (seqs body123).drop 13) [_, _, _] rfl fun J2 hJ2 => ?_
  refine evS_sound (f := 9) ?_
  simp [codes, e0, e4, e8, hn2, partOf]
  refine Stk.callF 9 (sizeRF x) rfl rfl rfl (by simp) rfl rfl ?_
  simp [w3, hp2, splice, e0, e8, w2]
  iterate 1 (try (refine evS_sound (f := 8) ?_; simp [e8, w2]))
  refine Stk.callF 9 hpt rfl rfl rfl (by simp [w2]) rfl rfl ?_
  simp
  iterate 2 (try (refine evS_sound (f := 8) ?_; simp))
  refine hr _ _ _ (.tup [U pw, I 0]) (by simp) ⟨by rw [hpw], ⟨⟨?_, ?_, by omega, by omega, hne, s.hc, ⟨s.ok.lo, s.ok.hi, ?_, ?_, ?_⟩⟩, by omega, fun j h1 h2 h3 => by rw [upd_ne _ _ h2, hkk j h1 h2 h3]⟩⟩
  · rw [upd_same, hns]; rfl
  · rw [upd_ne _ _ hne, hi']; rfl
  · show (putL _ _ _).length = _
    rw [putL_len (by simp; omega), hlen]; rfl
  · have := s.ok.bg
    show Hp.begin (laid h x l) ≤ h.next + size x.1 x.2.1 x.2.2
    have e : Hp.begin (laid h x l) = h.begin := rfl
    omega
  · show h.next + size x.1 x.2.1 x.2.2 ≤ Hp.begin (laid h x l) + h.half
    have e : Hp.begin (laid h x l) = h.begin := rfl
    omega
end Go.Proofs.Ytfflojbgikfbmaa.Hea

/-
  The document's heap: own on words of its own, Dump.
-/
namespace Go.Proofs.Ytfflojbgikfbmaa.Hea
open Go.Proofs.YtfflojbgikfbmaaW.Ah
open Go.Proofs.Ytfflojbgikfbmaa.Sta (U Er eU wrap_nsub wrap_pred load_u)
set_option maxRecDepth 4000
set_option linter.unusedVariables false
set_option linter.unusedSimpArgs false
attribute [local simp] T.t3 T.t4 T.t5 T.t9 T.t26 T.t34 T.t35 T.t39 T.t40 T.t62 T.t63 T.t70 T.t93 T.t144 T.t108 T.t176 Op.maxDepth List.range List.range.loop
attribute [-simp] appendAV cellsOf cellOk partOk
attribute [local simp] cellsOf_sc cellOk_sc partOk_sc cellsOf_own cellOk_own partOk_own cellsOf_osl cellOk_osl partOk_osl cellsOf_sh cellOk_sh partOk_sh cellsOf_ssl cellOk_ssl partOk_ssl cellsOf_esl cellOk_esl partOk_esl cellsOf_fn cellOk_fn partOk_fn cellsOf_omap cellOk_omap partOk_omap cellsOf_agg partOk_agg cellsOf_slv cellOk_slv partOk_slv

theorem ownQ {H : Mem} {n i o m : Nat} {c : Option Nat} {ws : List Int} {half next scan : Int} {up on : Bool} (hb : H i = some (.cells (encs eU ws) 40)) (hi : i < n) (h0 : 0 < m) (hl : o + m ≤ ws.length) (hl2 : ws.length ≤ 65536) :
    RunQ Try.prog T.T 122 [.agg [.osl i o m c, I half, B up, I next, B on, I scan]] H n (fun r H' n' => ∃ j, r = .agg [.osl j 0 m none, I half, B up, I next, B on, I scan] ∧ n ≤ j ∧ j < n' ∧ H' j = some (.cells (encs eU ((ws.drop o).take m)) 40) ∧ Calm H n H' n') := by
  have hrow : List.take m (List.drop o (encs eU ws)) = encs eU ((ws.drop o).take m) := by rw [encs_map, encs_map, List.map_take, List.map_drop]
  have hall : (encs eU ((ws.drop o).take m)).all cellOk = true := by
    rw [List.all_eq_true]
    intro x hx
    rw [encs_map, List.mem_map] at hx
    obtain ⟨y, _, rfl⟩ := hx
    rfl
  have hr1 : m * 8 ≤ 70368744177664 := by omega
  have hr2 : m ≤ 70368744177664 := by omega
  have hm0 : ¬ m = 0 := by omega
  have hne1 : ¬ i = n := by omega
  have hne2 : ¬ i = n + 1 := by omega
  refine RunQ.ev 999 Try.func122 rfl rfl rfl rfl rfl fun C hr hn => ?_
  simp [partOf, appendAV, splice, roomMax, hr1, hr2, hm0, hall, hb, hl, hrow, hne1, hne2, -cellOk, -List.all_eq_true, show n ≠ n + 1 + 1 by omega, show n + 1 ≠ n + 1 + 1 by omega]
  refine hr _ _ _ (.agg [.osl (n + 1 + 1) 0 m none, I half, B up, I next, B on, I scan]) (by simp [partOf]) ⟨n + 1 + 1, rfl, by omega, by omega, ?_, by omega, fun j hj => ?_⟩
  · simp [show ¬ n + 1 + 1 = n by omega, show ¬ n + 1 + 1 = n + 1 by omega]
  · simp [show ¬ j = n by omega, show ¬ j = n + 1 by omega, show ¬ j = n + 1 + 1 by omega]

theorem own0 {H : Mem} {n : Nat} {f : Bool} {half next scan : Int} {up on : Bool} :
    RunQ Try.prog T.T 122 [.agg [.esl f, I half, B up, I next, B on, I scan]] H n (fun r H' n' => r = .agg [.sc (.slice none 0 0), I half, B up, I next, B on, I scan] ∧ Calm H n H' n') := by
  refine RunQ.ev 999 Try.func122 rfl rfl rfl rfl rfl fun C hr hn => ?_
  simp [partOf, appendAV, splice, roomMax]
  refine hr _ _ _ (.agg [.sc (.slice none 0 0), I half, B up, I next, B on, I scan]) (by simp [partOf]) ⟨rfl, by omega, fun j hj => ?_⟩
  · simp [show ¬ j = n by omega, show ¬ j = n + 1 by omega, show ¬ j = n + 1 + 1 by omega]

theorem dumpR {H : Mem} {n p i : Nat} {c : Option Nat} {h : Hp} (s : StR H n p i c h) :
    RunQ Try.prog T.T 74 [.own p 0] H n (fun r H' n' => ∃ j, r = .agg [.osl j 0 (2 * h.half + 1) none, I h.half, B h.up, I h.next, B h.on, I h.scan] ∧ n ≤ j ∧ j < n' ∧ H' j = some (.cells (encs eU h.ws) 40) ∧ Calm H n H' n') := by
  have hp := s.hp
  have hlp := s.lp
  have hli := s.li
  have hlen := s.ok.len
  have hhi := s.ok.hi
  refine RunQ.ev 999 Try.func74 rfl rfl rfl rfl rfl fun C hr hn => ?_
  have hpn : ¬ p = n := by omega
  have hpn1 : ¬ p = n + 1 := by omega
  simp [hp, hpn, hpn1, partOf]
  have hw1 : ∀ v, upd H n v i = some (.cells (encs eU h.ws) 40) := fun v => by rw [upd_ne _ _ (by omega)]; exact s.hw
  have hq := ownQ (H := upd H n (some (.cells [.sc (.slice none 0 0), .sc (.int .i64 0), .sc (.bool false), .sc (.int .i64 0), .sc (.bool false), .sc (.int .i64 0)] 93))) (n := n + 1) (o := 0) (m := 2 * h.half + 1) (c := c) (half := h.half) (next := h.next) (scan := h.scan) (up := h.up) (on := h.on) (hw1 _) (by omega) (by omega) (by omega) (by omega)
  refine Stk.callS 9 hq rfl rfl rfl (by simp) ?_
  rintro v H3 n3 ⟨j3, rfl, hj1, hj2, h3, hc3⟩
  have g3 := hc3.1
  have h3n := hc3.2 n (by omega)
  rw [upd_same] at h3n
  rw [List.drop_zero, List.take_of_length_le (by omega)] at h3
  simp [h3n, partOf, splice]
  iterate 2 (try (refine evS_sound (f := 8) ?_; simp))
  refine hr _ _ _ (.agg [.osl j3 0 (2 * h.half + 1) none, I h.half, B h.up, I h.next, B h.on, I h.scan]) (by simp [partOf]) ⟨j3, rfl, by omega, by omega, ?_, by omega, fun j hj => ?_⟩
  · rw [upd_ne _ _ (by omega), h3]
  · rw [upd_ne _ _ (by omega), hc3.2 j (by omega), upd_ne _ _ (by omega)]
end Go.Proofs.Ytfflojbgikfbmaa.Hea
