/-
  The statement HeapMoves: from the turn on.
-/
import Derived.Test.YtfflojbgikfbmaaHO
namespace Go.Proofs.Ytfflojbgikfbmaa.Hea
open Go.Proofs.YtfflojbgikfbmaaW.Ah
open Go.Proofs.Ytfflojbgikfbmaa.Sta (U Er eU wrap_nsub wrap_pred load_u tmod_nat)
set_option maxRecDepth 4000
set_option linter.unusedVariables false
set_option linter.unusedSimpArgs false
attribute [local simp] T.t3 T.t4 T.t5 T.t26 T.t34 T.t39 T.t40 T.t62 T.t63 T.t70 T.t93 T.t144 Op.maxDepth List.range List.range.loop
attribute [-simp] appendAV cellsOf cellOk partOk
attribute [local simp] cellsOf_sc cellOk_sc partOk_sc cellsOf_own cellOk_own partOk_own cellsOf_osl cellOk_osl partOk_osl cellsOf_sh cellOk_sh partOk_sh cellsOf_ssl cellOk_ssl partOk_ssl cellsOf_esl cellOk_esl partOk_esl cellsOf_fn cellOk_fn partOk_fn cellsOf_omap cellOk_omap partOk_omap cellsOf_agg partOk_agg cellsOf_slv cellOk_slv partOk_slv

theorem RecOk.facts {h : Hp} {w : Int} {x : Int × Int × Int} (r : RecOk h w x) (hok : h.Ok) (hu : h.up = false) : ∃ A, Facts h w A x := by
  obtain ⟨a, e1, e2, e3, e4, e5, e6⟩ := r
  have hto := hok.to
  have hb : h.begin = 1 := by unfold Hp.begin; rw [hu]; rfl
  exact ⟨a, e1, e2, e3, by omega, e5, e6, hok.len, hok.lo, hok.hi⟩

theorem mC (u : Int) (hu0 : 0 ≤ u ∧ u < 256) (C : Cont) (hC : ∀ t H n, resOf T.T Try.f9.results.toList ⟨t, H, n⟩ = some (B true) → C .ret t H n)
    (K : ∀ t H n p i c (h2 : Hp) (A k : Nat) (w : Int) (x : Int × Int × Int) ia ib (ws : List Int) (ys : List (Int × Int × Int)) n25 n27, t 5 = .own p 0 → t 7 = slv ia ws.length → t 8 = slv ib ys.length → t 15 = I k → t 16 = U (802 : Int) → t 17 = I (size x.1 x.2.1 x.2.2) → t 18 = I 0 → t 19 = U (802 : Int) → t 20 = I 0 → t 21 = I 0 → t 22 = U (802 : Int) → t 23 = I 0 → t 24 = I 0 → t 25 = .own n25 0 → t 26 = I 0 → t 27 = .own n27 0 → t 28 = I 0 →
      H n25 = some (.cells (eH x) 34) → H n27 = some (.cells (eH x) 34) → n25 < n → n27 < n → Own H 40 eU ia ws → Own H 34 eH ib ys → (∀ j, ia = some j → j < n) → (∀ j, ib = some j → j < n) → ws[k]? = some w → ys[k]? = some x → St H n p i c h2 → h2.half = 400 → h2.up = true → h2.next = 401 + size x.1 x.2.1 x.2.2 → w = ((2 * A : Nat) : Int) → A ≤ 400 → h2.recAt w = some (401, x) → h2.recAt (802 : Int) = some (401, x) →
      Stk Try.prog T.T 261 (codes ((seqs body9).drop 18)) t H n C)
    (t : Nat → AV) (H : Mem) (n p i : Nat) (c : Option Nat) (h : Hp) (ia ib : Option Nat) (ws : List Int) (ys : List (Int × Int × Int)) (t1 : t 1 = .sc (.int .u8 u)) (t5 : t 5 = .own p 0) (t7 : t 7 = slv ia ws.length) (t8 : t 8 = slv ib ys.length) (st : St H n p i c h) (hh : h.half = 400) (hu : h.up = false) (td : Told H n p i h ia ib ws ys) (hl : ys.length ≤ 40) :
    Stk Try.prog T.T 261 (codes ((seqs body9).drop 10)) t H n C := by
  refine Stk.cut (l' := (seqs body9).drop 18) [_, _, _, _, _, _, _, _] rfl fun J hJ => ?_
  refine evS_sound (f := 999) ?_
  simp [codes, t5]
  refine Stk.callS 6 (turn st) rfl rfl rfl (by simp) ?_
  rintro v H2 n2 ⟨rfl, st2⟩
  have hht : (⟨h.ws, h.half, !h.up, (Hp.begin ⟨h.ws, h.half, !h.up, 0, false, 0⟩), false, 0⟩ : Hp) = turned h := by simp [turned, Hp.begin, hu]
  rw [hht] at st2
  have td2 := td.far st2.le st2.keep
  replace st2 := st2.st
  cases ia with
  | none =>
    have h0 : ws = [] := td.oa
    have hl0 : ws.length = 0 := by rw [h0]; rfl
    simp at t7
    simp [t7]
    (refine evS_sound (f := 6) ?_; simp [t7])
    (refine evS_sound (f := 6) ?_; simp [t7])
    refine Stk.callF 99 awake rfl rfl rfl (by simp) rfl rfl ?_
    simp
    exact hC _ _ _ (by simp)
  | some ja =>
    simp at t7
    by_cases hl0 : ws.length = 0
    · have hlb : ((ws.length : Int) == 0) = true := by simp [hl0]
      simp [t7]
      (refine evS_sound (f := 6) ?_; simp [t7, hlb])
      (refine evS_sound (f := 6) ?_; simp [t7, hlb])
      refine Stk.callF 99 awake rfl rfl rfl (by simp) rfl rfl ?_
      simp
      exact hC _ _ _ (by simp)
    · have hlb : ((ws.length : Int) == 0) = false := by simp; intro e; rw [e] at hl0; exact hl0 rfl
      obtain ⟨k, hk, ek⟩ := tmod_nat (k := ws.length) hu0.1 (by omega)
      have wu : IntKind.i64.wrap u = u := wrap64_id (by omega) (by omega)
      have hk2 : k < ys.length := by rw [← td.len]; exact hk
      obtain ⟨w, hw⟩ : ∃ w, w = ws[k] := ⟨_, rfl⟩
      obtain ⟨x, hx⟩ : ∃ x, x = ys[k] := ⟨_, rfl⟩
      obtain ⟨A, fa⟩ := (td.recs k hk hk2).facts st.ok hu
      rw [← hw, ← hx] at fa
      have hnil : ¬ ws = [] := fun e => hl0 (by rw [e]; rfl)
      obtain ⟨yz, oa⟩ := td2.oa
      have hce := cell_own (e := eU) (z := 1) ws yz k 0 hk (by omega)
      simp [← hw] at hce
      have hco : partOf T.T 40 (encs eU ws ++ yz) k = some (U w) := by simp [partOf, hce]
      have hki : (k : Int) < ws.length := by omega
      simp [t7]
      (refine evS_sound (f := 6) ?_; simp [t1, t5, t7, t8, wu, ek, hlb, hnil, oa, hco, hki, hk])
      refine evS_sound (f := 99) ?_
      simp [t1, t5, t7, t8, wu, ek, hlb, hnil, oa, hco, hki, hk]
      obtain ⟨r1, r2, r3⟩ := turned_rec fa
      have hsz := size_can fa.can
      have hbl := body_le fa.can
      obtain ⟨sz, hsz'⟩ : ∃ sz, sz = size x.1 x.2.1 x.2.2 := ⟨_, rfl⟩
      have hm1 := move st2 r1 r2 r3 (.inl fa.fit)
      have u1 : (turned h).usedP w = false := by
        unfold Hp.usedP; rw [fa.w, place_two fa.A1 (by have := fa.fit; have := fa.hi; omega)]
        show (decide (h.half < A) == true) = false
        have := fa.fit; simp; omega
      have u2 : (turned h).ws.getD (A + 1) 0 = w := by
        rw [fa.w]; exact getD_of fa.wA1
      have hroom : (turned h).room = h.half := by show h.half + 1 + h.half - (h.half + 1) = h.half; omega
      simp only [u2, u1, hroom, Bool.false_eq_true, if_false] at hm1
      have hfit : size x.1 x.2.1 x.2.2 ≤ h.half := by have := fa.lo; omega
      simp only [hfit, if_true] at hm1
      refine Stk.callS 8 hm1 rfl rfl rfl (by simp) ?_
      rintro v H3 n3 ⟨rfl, st3⟩
      obtain ⟨l, hl⟩ : ∃ l, l = (h.ws.drop (A + 2)).take (size x.1 x.2.1 x.2.2 - 2) := ⟨_, rfl⟩
      have hll : l.length = size x.1 x.2.1 x.2.2 - 2 := by rw [hl]; simp; have := fa.len; have := fa.fit; omega
      obtain ⟨h2, hh2⟩ : ∃ h2, h2 = moved h A (size x.1 x.2.1 x.2.2) (hv x.1 x.2.1 x.2.2) l := ⟨_, rfl⟩
      have st3' : Step H2 n2 p i c H3 n3 h2 := by rw [hh2, hl]; exact st3
      clear st3
      have td3 := td2.far st3'.le st3'.keep
      have l3 := st3'.le
      replace st3 := st3'.st
      obtain ⟨g1, g2, g3, g4, g5, g6, g7, g8, g9⟩ := moved_rec fa l hll (by have := fa.lo; omega) h2 hh2
      have h802 : ((2 * (h.half + 1) : Nat) : Int) = 802 := by rw [hh]; rfl
      have h802' : ((2 * (turned h).next : Nat) : Int) = 802 := h802
      have h401 : h.half + 1 = 401 := by rw [hh]
      rw [h802] at g4 g5 g8 g9
      rw [h401] at g1 g4 g5 g6
      rw [h802', ← hsz']
      obtain ⟨yz3, oa3⟩ := td3.oa
      have hce3 := cell_own (e := eU) (z := 1) ws yz3 k 0 hk (by omega)
      simp [← hw] at hce3
      have hco3 : partOf T.T 40 (encs eU ws ++ yz3) k = some (U w) := by simp [partOf, hce3]
      have hn2 : h2.next = 401 + sz := by rw [hh2, hsz']; show h.half + 1 + _ = _; omega
      have hm2 := move st3 g1 g2 g3 (.inl (by rw [hn2, ← hsz']; exact Nat.le_refl _))
      simp only [g7, g9, g8, Bool.false_eq_true, if_false, if_true] at hm2
      simp [t7, oa3, hco3, hki, hk]
      (refine evS_sound (f := 12) ?_; simp [t5, t7, oa3, hco3, hki, hk])
      refine Stk.callS 8 hm2 rfl rfl rfl (by simp) ?_
      rintro v H4 n4 ⟨rfl, hc4⟩
      have st4 := st3.far hc4.1 hc4.2
      have td4 := td3.far hc4.1 (fun j hj _ _ => hc4.2 j hj)
      have hm3 := move st4 g4 g5 g6 (.inl (by rw [hn2, ← hsz']; exact Nat.le_refl _))
      simp only [g8, if_true] at hm3
      have l4 := hc4.1
      simp [t5]
      (refine evS_sound (f := 12) ?_; simp [t5, t7])
      refine Stk.callS 8 hm3 rfl rfl rfl (by simp) ?_
      rintro v H5 n5 ⟨rfl, hc5⟩
      have st5 := st4.far hc5.1 hc5.2
      have td5 := td4.far hc5.1 (fun j hj _ _ => hc5.2 j hj)
      have l5 := hc5.1
      obtain ⟨yz5, oa5⟩ := td5.oa
      have hce5 := cell_own (e := eU) (z := 1) ws yz5 k 0 hk (by omega)
      simp [← hw] at hce5
      have hco5 : partOf T.T 40 (encs eU ws ++ yz5) k = some (U w) := by simp [partOf, hce5]
      simp [t5, t7]
      (refine evS_sound (f := 12) ?_; simp [t5, t7, oa5, hco5, hki, hk])
      have hlk := lookQ st5 w
      rw [g1] at hlk
      refine Stk.callS 12 hlk rfl rfl rfl (by simp) ?_
      rintro v H6 n6 ⟨rfl, hc6⟩
      have st6 := st5.far hc6.1 hc6.2
      have td6 := td5.far hc6.1 (fun j hj _ _ => hc6.2 j hj)
      have l6 := hc6.1
      obtain ⟨H7, hH7⟩ : ∃ H7 : Mem, H7 = upd (upd H6 n6 (some (.cells [.sc (.int .i64 0), .sc (.int .i64 0), .sc (.int .i64 0)] 34))) n6 (some (.cells [I x.1, I x.2.1, I x.2.2] 34)) := ⟨_, rfl⟩
      have hc7 : Calm H6 n6 H7 (n6 + 1) := ⟨by omega, fun j hj => by rw [hH7, upd_ne _ _ (by omega), upd_ne _ _ (by omega)]⟩
      have st7 := st6.far hc7.1 hc7.2
      have td7 := td6.far hc7.1 (fun j hj _ _ => hc7.2 j hj)
      have h7x : H7 n6 = some (.cells (eH x) 34) := by rw [hH7, upd_same]
      have hlk2 := lookQ st7 802
      rw [g4] at hlk2
      simp [lookV, t5]
      (refine evS_sound (f := 12) ?_; simp [t5])
      rw [← hH7]
      refine Stk.callS 8 hlk2 rfl rfl rfl (by simp) ?_
      rintro v H8 n8 ⟨rfl, hc8⟩
      have st8 := st7.far hc8.1 hc8.2
      have td8 := td7.far hc8.1 (fun j hj _ _ => hc8.2 j hj)
      have l8 := hc8.1
      obtain ⟨H9, hH9⟩ : ∃ H9 : Mem, H9 = upd (upd H8 n8 (some (.cells [.sc (.int .i64 0), .sc (.int .i64 0), .sc (.int .i64 0)] 34))) n8 (some (.cells [I x.1, I x.2.1, I x.2.2] 34)) := ⟨_, rfl⟩
      have hc9 : Calm H8 n8 H9 (n8 + 1) := ⟨by omega, fun j hj => by rw [hH9, upd_ne _ _ (by omega), upd_ne _ _ (by omega)]⟩
      have st9 := st8.far hc9.1 hc9.2
      have td9 := td8.far hc9.1 (fun j hj _ _ => hc9.2 j hj)
      have h9x : H9 n8 = some (.cells (eH x) 34) := by rw [hH9, upd_same]
      have h9y : H9 n6 = some (.cells (eH x) 34) := by rw [hc9.2 n6 (by omega), hc8.2 n6 (by omega), h7x]
      simp [lookV, t5]
      rw [← hH9]
      refine hJ _ _ _ (K _ _ _ p i c h2 A k w x (some ja) ib ws ys n6 n8 (by simp [t5]) (by simp [t7]) (by simp [t8]) (by simp) (by simp) (by simp [hsz']) (by simp) (by simp) (by simp) (by simp) (by simp) (by simp) (by simp) (by simp) (by simp) (by simp) (by simp) h9y h9x (by omega) (by omega) td9.oa td9.ob (fun j hj => (td9.la j hj).1) (fun j hj => (td9.lb j hj).1) (by rw [List.getElem?_eq_getElem hk, hw]) (by rw [List.getElem?_eq_getElem hk2, hx]) st9 (by rw [hh2]; exact hh) (by rw [hh2]; rfl) (by rw [hn2, hsz']) fa.w (by have := fa.fit; omega) g1 g4)
end Go.Proofs.Ytfflojbgikfbmaa.Hea
