/-
  The document's heap, lent to what only reads it; Turn.
-/
import Derived.Test.YtfflojbgikfbmaaKN1
import Derived.Test.YtfflojbgikfbmaaHrW0
import Derived.Test.YtfflojbgikfbmaaHrW1
namespace Go.Proofs.Ytfflojbgikfbmaa.Hea
open Go.Proofs.YtfflojbgikfbmaaW.Ah
open Go.Proofs.Ytfflojbgikfbmaa.Sta (U Er eU wrap_nsub wrap_pred load_u)
set_option maxRecDepth 4000
set_option linter.unusedVariables false
set_option linter.unusedSimpArgs false
attribute [local simp] T.t3 T.t4 T.t5 T.t9 T.t26 T.t34 T.t35 T.t39 T.t40 T.t62 T.t63 T.t70 T.t93 T.t144 T.t108 T.t176 Op.maxDepth List.range List.range.loop
attribute [-simp] appendAV cellsOf cellOk partOk
attribute [local simp] cellsOf_sc cellOk_sc partOk_sc cellsOf_own cellOk_own partOk_own cellsOf_osl cellOk_osl partOk_osl cellsOf_sh cellOk_sh partOk_sh cellsOf_ssl cellOk_ssl partOk_ssl cellsOf_esl cellOk_esl partOk_esl cellsOf_fn cellOk_fn partOk_fn cellsOf_omap cellOk_omap partOk_omap cellsOf_agg partOk_agg cellsOf_slv cellOk_slv partOk_slv

/-- A heap, as the generator's functions have it. -/
def toR (h : Hp) : M.handloomref16_Heap := ⟨⟨h.ws, h.half, h.up, h.next, h.on, h.scan⟩⟩
theorem viewR {H : Mem} {n p i : Nat} {c : Option Nat} {h : Hp} (s : StR H n p i c h) : View T.T H [p, i] (.own p 0) (.sh (M.c176 (toR h))) := by
  have hlen := s.ok.len
  have hv := view_row (T := T.T) (ids := [p, i]) (e := eU) (fun _ => rfl) s.hw (by simp) c
  rw [hlen] at hv
  refine .own (by simp) s.hp ?_
  rw [List.drop_zero]
  have e : M.c176 (toR h) = [.ssl (encs eU h.ws) (2 * h.half + 1) false, I h.half, B h.up, I h.next, B h.on, I h.scan] := by
    rw [← hlen]; rfl
  rw [e]
  exact .cons hv (.free rfl)

theorem setR {H : Mem} {n p i : Nat} {c : Option Nat} {h : Hp} (s : StR H n p i c h) (w k v : Int) {F : Nat} {a e : Int} (hf : M.R16_Heap_field F (toR h) w k = some (a, e)) (ha : e = 0 → 0 ≤ a ∧ a < h.ws.length) :
    RunQ Try.prog T.T 130 [.own p 0, U w, I k, U v] H n (fun r H' n' => r = I e ∧ StepR H n p i c H' n' (if e = 0 then ⟨h.ws.set a.toNat v, h.half, h.up, h.next, h.on, h.scan⟩ else h)) := by
  have hp := s.hp
  have hw := s.hw
  have hlen := s.ok.len
  have hne := s.ne
  refine RunQ.ev 999 Try.func130 rfl rfl rfl rfl rfl fun C hr hn => ?_
  simp
  refine Stk.callB 8 [p, i] (M.ok_R16_Heap_field F (toR h) w k (a, e) hf) rfl rfl rfl (by simp) (.cons (viewR s) (.free rfl)) rfl ?_
  by_cases he : e = 0
  · subst he
    obtain ⟨a0, a1⟩ := ha rfl
    obtain ⟨m, rfl⟩ := Int.eq_ofNat_of_zero_le a0
    have hlt : m < 2 * h.half + 1 := by omega
    have hlti : (m : Int) < 2 * (h.half : Int) + 1 := by omega
    have hlt1 : m + 1 ≤ h.ws.length := by omega
    have hset := set_cells (l := h.ws) (k := m) (by omega) v
    simp
    iterate 4 (try (refine evS_sound (f := 8) ?_; simp [hp, hw, hlt, hlti, hlt1, hset, splice, partOf]))
    refine hr _ _ _ (I 0) (by simp) ⟨rfl, ?_⟩
    rw [if_pos rfl, Int.toNat_natCast]
    exact ⟨⟨by rw [upd_ne _ _ (Ne.symm hne)]; exact s.hp, upd_same _ _ _, s.lp, s.li, s.ne, s.hc, ⟨s.ok.lo, s.ok.hi, by simp only [List.length_set]; exact s.ok.len, s.ok.bg, s.ok.to⟩⟩, Nat.le_refl _, fun j hj _ hji => upd_ne _ _ hji⟩
  · have heb : (e == 0) = false := by simp [he]
    simp [he, heb]
    iterate 3 (try (refine evS_sound (f := 8) ?_; simp [he, heb]))
    exact hr _ _ _ (I e) (by simp) ⟨rfl, by rw [if_neg he]; exact ⟨s, Nat.le_refl _, fun _ _ _ _ => rfl⟩⟩
end Go.Proofs.Ytfflojbgikfbmaa.Hea

/-
  The document's heap: Turn.
-/
namespace Go.Proofs.Ytfflojbgikfbmaa.Hea
open Go.Proofs.YtfflojbgikfbmaaW.Ah
open Go.Proofs.Ytfflojbgikfbmaa.Sta (U Er eU wrap_nsub wrap_pred load_u)
set_option maxRecDepth 4000
set_option linter.unusedVariables false
set_option linter.unusedSimpArgs false
attribute [local simp] T.t3 T.t4 T.t5 T.t9 T.t26 T.t34 T.t35 T.t39 T.t40 T.t62 T.t63 T.t70 T.t93 T.t144 T.t108 T.t176 Op.maxDepth List.range List.range.loop
attribute [-simp] appendAV cellsOf cellOk partOk
attribute [local simp] cellsOf_sc cellOk_sc partOk_sc cellsOf_own cellOk_own partOk_own cellsOf_osl cellOk_osl partOk_osl cellsOf_sh cellOk_sh partOk_sh cellsOf_ssl cellOk_ssl partOk_ssl cellsOf_esl cellOk_esl partOk_esl cellsOf_fn cellOk_fn partOk_fn cellsOf_omap cellOk_omap partOk_omap cellsOf_agg partOk_agg cellsOf_slv cellOk_slv partOk_slv


theorem turnR {H : Mem} {n p i : Nat} {c : Option Nat} {h : Hp} (s : StR H n p i c h) :
    RunQ Try.prog T.T 131 [.own p 0] H n (fun r H' n' => r = I 0 ∧ StepR H n p i c H' n' ⟨h.ws, h.half, !h.up, (Hp.begin ⟨h.ws, h.half, !h.up, 0, false, 0⟩), false, 0⟩) := by
  have hp := s.hp
  have hlp := s.lp
  have hip := s.ne
  have hok := s.ok
  have hlen := hok.len
  have hhi := hok.hi
  have hf : M.R16_first 0 ⟨h.ws, h.half, !h.up, h.next, h.on, h.scan⟩ = some ((Hp.begin ⟨h.ws, h.half, !h.up, 0, false, 0⟩ : Nat) : Int) := by
    unfold M.R16_first Hp.begin
    cases h.up with
    | true => simp
    | false =>
      simp
      rw [wrap64_id (by omega) (by omega)]
  have hrun := M.ok_R16_first 0 _ _ hf
  obtain ⟨B2, hB2⟩ : ∃ B2 : Nat, B2 = Hp.begin ⟨h.ws, h.half, !h.up, 0, false, 0⟩ := ⟨_, rfl⟩
  rw [← hB2] at hrun
  refine RunQ.ev 999 Try.func131 rfl rfl rfl rfl rfl fun C hr hn => ?_
  rw [← hB2] at hr
  simp [hp, partOf, splice]
  obtain ⟨H2, hH2⟩ : ∃ H2 : Mem, H2 = upd H p (some (.cells [.osl i 0 (2 * h.half + 1) c, I h.half, B !h.up, I h.next, B h.on, I h.scan] 176)) := ⟨_, rfl⟩
  rw [← hH2]
  have h2p : H2 p = some (.cells [.osl i 0 (2 * h.half + 1) c, I h.half, B !h.up, I h.next, B h.on, I h.scan] 176) := by rw [hH2, upd_same]
  have h2i : H2 i = some (.cells (encs eU h.ws) 40) := by rw [hH2, upd_ne _ _ hip]; exact s.hw
  have hv := view_row (T := T.T) (ids := [i]) (e := eU) (fun _ => rfl) h2i (by simp) c
  rw [hlen] at hv
  have e : (M.c93 ⟨h.ws, h.half, !h.up, h.next, h.on, h.scan⟩) = [.ssl (encs eU h.ws) (2 * h.half + 1) false, I h.half, B !h.up, I h.next, B h.on, I h.scan] := by
    rw [← hlen]; rfl
  rw [e] at hrun
  refine Stk.callB 8 [i] hrun rfl rfl rfl (by simp) (.cons (.agg (.cons hv (.free rfl))) .nil) rfl ?_
  simp [h2p, partOf, splice]
  iterate 4 (try (refine evS_sound (f := 8) ?_; simp [h2p, partOf, splice]))
  refine hr _ _ _ (I 0) (by simp) ⟨rfl, ⟨⟨by simp, ?_, s.lp, s.li, s.ne, s.hc, ⟨hok.lo, hok.hi, hok.len, by rw [hB2]; exact Nat.le_refl _, by rw [hB2]; exact Nat.le_add_right _ _⟩⟩, Nat.le_refl _, fun j hj hjp hji => ?_⟩⟩
  · simp [hip, h2i]
  · simp [hjp, hH2]
end Go.Proofs.Ytfflojbgikfbmaa.Hea

/-
  The document's heap: From.
-/
namespace Go.Proofs.Ytfflojbgikfbmaa.Hea
open Go.Proofs.YtfflojbgikfbmaaW.Ah
open Go.Proofs.Ytfflojbgikfbmaa.Sta (U Er eU wrap_nsub wrap_pred load_u)
set_option maxRecDepth 4000
set_option linter.unusedVariables false
set_option linter.unusedSimpArgs false
attribute [local simp] T.t3 T.t4 T.t5 T.t9 T.t26 T.t34 T.t35 T.t39 T.t40 T.t62 T.t63 T.t70 T.t93 T.t144 T.t108 T.t176 Op.maxDepth List.range List.range.loop
attribute [-simp] appendAV cellsOf cellOk partOk
attribute [local simp] cellsOf_sc cellOk_sc partOk_sc cellsOf_own cellOk_own partOk_own cellsOf_osl cellOk_osl partOk_osl cellsOf_sh cellOk_sh partOk_sh cellsOf_ssl cellOk_ssl partOk_ssl cellsOf_esl cellOk_esl partOk_esl cellsOf_fn cellOk_fn partOk_fn cellsOf_omap cellOk_omap partOk_omap cellsOf_agg partOk_agg cellsOf_slv cellOk_slv partOk_slv



theorem ownX {H : Mem} {n : Nat} {ws : List Int} {half next scan : Int} {up on : Bool} (h0 : ¬ ws.length = 0) (hl : ws.length ≤ 65536) :
    RunQ Try.prog T.T 122 [.agg [.ssl (encs eU ws) ws.length false, I half, B up, I next, B on, I scan]] H n (fun r H' n' => ∃ j, r = .agg [.osl j 0 ws.length none, I half, B up, I next, B on, I scan] ∧ n ≤ j ∧ j < n' ∧ H' j = some (.cells (encs eU ws) 40) ∧ Calm H n H' n') := by
  have hall : (encs eU ws).all cellOk = true := by
    rw [List.all_eq_true]
    intro x hx
    rw [encs_map, List.mem_map] at hx
    obtain ⟨y, _, rfl⟩ := hx
    rfl
  have hr1 : ws.length * 8 ≤ 70368744177664 := by omega
  have hr2 : ws.length ≤ 70368744177664 := by omega
  have hnx : ¬ ws = [] := fun e => h0 (by rw [e]; rfl)
  have htk : List.take ws.length (encs eU ws) = encs eU ws := List.take_of_length_le (by simp [length_encs])
  refine RunQ.ev 999 Try.func122 rfl rfl rfl rfl rfl fun C hr hn => ?_
  simp [partOf, appendAV, splice, roomMax, hr1, hr2, hnx, h0, hall, -cellOk, -List.all_eq_true, htk, show n ≠ n + 1 + 1 by omega, show n + 1 ≠ n + 1 + 1 by omega]
  refine hr _ _ _ (.agg [.osl (n + 1 + 1) 0 ws.length none, I half, B up, I next, B on, I scan]) (by simp [partOf]) ⟨n + 1 + 1, rfl, by omega, by omega, ?_, by omega, fun j hj => ?_⟩
  · simp [show ¬ n + 1 + 1 = n by omega, show ¬ n + 1 + 1 = n + 1 by omega]
  · simp [show ¬ j = n by omega, show ¬ j = n + 1 by omega, show ¬ j = n + 1 + 1 by omega]

theorem fromRN (H : Mem) (n : Nat) (ws : List Int) (half next scan : Int) (up on : Bool) (hfit : RunF Try.prog T.T 62 [.agg [.ssl (encs eU ws) ws.length false, I half, B up, I next, B on, I scan]] (B false)) :
    RunQ Try.prog T.T 67 [.agg [.ssl (encs eU ws) ws.length false, I half, B up, I next, B on, I scan]] H n (fun r H' n' => r = .tup [.sc (.pointer none), I 19] ∧ Calm H n H' n') := by
  refine RunQ.ev 999 Try.func67 rfl rfl rfl rfl rfl fun C hr hn => ?_
  simp [partOf]
  refine Stk.callF 99 hfit rfl rfl rfl (by simp) (by simp [freeL, free, freeL_encs (e := eU) (fun _ => rfl)]) rfl ?_
  simp
  exact hr _ _ _ (.tup [.sc (.pointer none), I 19]) (by simp) ⟨rfl, by omega, fun j hj => by rw [upd_ne _ _ (by omega)]⟩

theorem fromRY (H : Mem) (n : Nat) (h : Hp) (hok : h.Ok) (hfit : RunF Try.prog T.T 62 [.agg [.ssl (encs eU h.ws) h.ws.length false, I h.half, B h.up, I h.next, B h.on, I h.scan]] (B true)) :
    RunQ Try.prog T.T 67 [.agg [.ssl (encs eU h.ws) h.ws.length false, I h.half, B h.up, I h.next, B h.on, I h.scan]] H n (fun r H' n' => ∃ p i, r = .tup [.own p 0, I 0] ∧ n ≤ p ∧ n ≤ i ∧ Calm H n H' n' ∧ StR H' n' p i none h) := by
  have hlen := hok.len
  have hhi := hok.hi
  refine RunQ.ev 999 Try.func67 rfl rfl rfl rfl rfl fun C hr hn => ?_
  simp [partOf]
  refine Stk.callF 99 hfit rfl rfl rfl (by simp) (by simp [freeL, free, freeL_encs (e := eU) (fun _ => rfl)]) rfl ?_
  simp [partOf]
  refine Stk.callS 99 (ownX (n := n + 1) (ws := h.ws) (half := h.half) (next := h.next) (scan := h.scan) (up := h.up) (on := h.on) (by omega) (by omega)) rfl rfl rfl (by simp) ?_
  rintro v H3 n3 ⟨j3, rfl, hj1, hj2, h3, hc3⟩
  have g3 := hc3.1
  simp [partOf, splice]
  refine hr _ _ _ (.tup [.own n3 0, I 0]) (by simp) ⟨n3, j3, rfl, by omega, by omega, ⟨by omega, fun j hj => ?_⟩, ⟨?_, ?_, by omega, by omega, by omega, .inl rfl, hok⟩⟩
  · rw [upd_ne _ _ (by omega), hc3.2 j (by omega), upd_ne _ _ (by omega)]
  · rw [upd_same, hlen]
  · rw [upd_ne _ _ (by omega), h3]
end Go.Proofs.Ytfflojbgikfbmaa.Hea

/-
  What the document's heap tells, of the heap's own words (plain).
-/
namespace Go.Proofs.Ytfflojbgikfbmaa.Hea
open Go.Proofs.YtfflojbgikfbmaaW.Ah
set_option linter.unusedVariables false
set_option linter.unusedSimpArgs false

theorem atR (F : Nat) (w : Int) (h0 : 0 ≤ w) (h1 : w ≤ 18446744073709551615) : M.R01_At F w = some ((((place w).getD 0 : Nat) : Int), (place w).isSome) := by
  unfold M.R01_At place
  have e1 : w.tmod 2 = w % 2 := Int.tmod_eq_emod_of_nonneg h0
  have e2 : w.tdiv 2 = w / 2 := Int.tdiv_eq_ediv_of_nonneg h0
  have e3 : IntKind.u64.wrap (w / 2) = w / 2 := wrapu64_id (by omega) (by omega)
  rw [e1, e2, e3]
  by_cases c1 : w % 2 = 1
  · simp [c1]
  · by_cases c2 : w = 0
    · simp [c2]
    · by_cases c3 : w < 8589934592
      · have e4 : IntKind.u32.wrap (w / 2) = w / 2 := wrapu32_id (by omega) (by omega)
        have c4 : ¬ 8589934592 ≤ w := by omega
        rw [e4]
        have e5 : ((w / 2).toNat : Int) = w / 2 := by omega
        have hcc : ¬ (w % 2 = 1 ∨ ¬(0 ≤ w ∧ w < 8589934592) ∨ w = 0) := by omega
        rw [if_neg hcc]
        have b1 : (w % 2 == 1) = false := by simp [c1]
        have b2 : (w == 0) = false := by simp [c2]
        simp [b1, b2, c4, e4, e5]
      · have c4 : 8589934592 ≤ w := by omega
        simp [c1, c2, c3, c4]

theorem leftR (F : Nat) (h : Hp) (ok : h.Ok) (w : Int) (h0 : 0 ≤ w) (h1 : w ≤ 18446744073709551615) : M.R16_Heap_left F (toR h) w = some (match h.pl w with | some a => ((a : Int), (h.span a : Int)) | none => (0, 0)) := by
  have hhi := ok.hi
  unfold M.R16_Heap_left
  rw [atR F w h0 h1]
  simp only [Option.bind_some]
  unfold Hp.pl
  have w1 : IntKind.i64.wrap (2 * (h.half : Int)) = 2 * (h.half : Int) := wrap64_id (by omega) (by omega)
  cases hp : place w with
  | none => simp
  | some a =>
    have ha := place_lt hp
    have w2 : IntKind.i64.wrap (a : Int) = a := wrap64_id (by omega) (by omega)
    simp only [Option.getD_some, Option.isSome_some, toR, w1, w2, Bool.not_true, Bool.false_or]
    by_cases c1 : a ≤ 2 * h.half
    · have d1 : decide (2 * (h.half : Int) < (a : Int)) = false := by simp; omega
      rw [d1, if_pos c1]
      simp only [cond_false]
      by_cases c2 : a ≤ h.half
      · have d2 : decide ((a : Int) ≤ (h.half : Int)) = true := by simp; omega
        rw [d2]
        simp only [cond_true]
        unfold Hp.span
        rw [if_pos c2, wrap64_id (x := (h.half : Int) + 1) (by omega) (by omega), wrap64_id (by omega) (by omega)]
        congr 2
        omega
      · have d2 : decide ((a : Int) ≤ (h.half : Int)) = false := by simp; omega
        rw [d2]
        simp only [cond_false]
        unfold Hp.span
        rw [if_neg c2, wrap64_id (x := 2 * (h.half : Int) + 1) (by omega) (by omega), wrap64_id (by omega) (by omega)]
        congr 2
        omega
    · have d1 : decide (2 * (h.half : Int) < (a : Int)) = true := by simp; omega
      rw [d1, if_neg c1]
      rfl

theorem canR16 (F : Nat) (k t c : Int) : M.R16_can F ⟨k, t, c⟩ = some (decide (Can k t c)) := by
  unfold M.R16_can Can
  by_cases h1 : k = 1
  · subst h1
    have : ((1 : Int) == 1) = true := rfl
    simp only [this, cond_true]
    congr 1
    by_cases a : t = 0 <;> by_cases b : 0 ≤ c <;> by_cases d : c ≤ 64 <;> simp [a, b, d]
  · have : (k == 1) = false := by simp [h1]
    simp only [this, cond_false]
    congr 1
    by_cases z : k = 0
    · subst z
      by_cases a : 0 ≤ t <;> by_cases b : t ≤ 15 <;> by_cases d : 1 ≤ c <;> by_cases f : c ≤ 6 <;> simp [a, b, d, f, show (0 : Int) < c ↔ 1 ≤ c from Iff.rfl]
    · simp [z, h1]
theorem readR16 (F : Nat) (v : Int) (h0 : 0 ≤ v) (h1 : v ≤ 18446744073709551615) : M.R16_Read F v = some (match rd v with | some x => (⟨x.1, x.2.1, x.2.2⟩, true) | none => (⟨0, 0, 0⟩, false)) := by
  unfold M.R16_Read rd
  by_cases hl : v < 1048576
  · have d1 : decide (1048576 ≤ v) = false := by simp; omega
    have t1 : v.tdiv 65536 = v / 65536 := Int.tdiv_eq_ediv_of_nonneg h0
    have t2 : v.tdiv 256 = v / 256 := Int.tdiv_eq_ediv_of_nonneg h0
    have t3 : v.tmod 256 = v % 256 := Int.tmod_eq_emod_of_nonneg h0
    have e1 : IntKind.u64.wrap (v / 65536) = v / 65536 := wrapu64_id (by omega) (by omega)
    have e2 : IntKind.u64.wrap (v / 256) = v / 256 := wrapu64_id (by omega) (by omega)
    have t4 : (v / 256).tmod 256 = v / 256 % 256 := Int.tmod_eq_emod_of_nonneg (by omega)
    rw [d1, t1, t2, t3, e1, e2, t4, wrap64_id (x := v / 65536) (by omega) (by omega), wrap64_id (x := v / 256 % 256) (by omega) (by omega), wrap64_id (x := v % 256) (by omega) (by omega)]
    simp only [cond_false, canR16, Option.bind_some]
    by_cases hc : Can (v / 65536) (v / 256 % 256) (v % 256)
    · rw [if_pos ⟨h0, hl, hc⟩, decide_eq_true hc]; rfl
    · rw [if_neg (fun e => hc e.2.2), decide_eq_false hc]; rfl
  · have d1 : decide (1048576 ≤ v) = true := by simp; omega
    rw [d1, if_neg (fun e => hl e.2.1)]
    rfl

theorem sizeR16 (F : Nat) (k t c : Int) : M.R16_Size F ⟨k, t, c⟩ = some (size k t c : Int) := by
  unfold M.R16_Size size
  rw [canR16]
  simp only [Option.bind_some]
  by_cases hc : Can k t c
  · rw [decide_eq_true hc, if_pos hc]
    have h2 := hc
    unfold Can at h2
    simp only [Bool.not_true, cond_false]
    unfold body
    rcases h2 with h2 | h2
    · have h3 : (k == 1) = false := by simp; omega
      rw [h3, if_neg (by omega), wrap64_id (x := 2 + c) (by omega) (by omega)]
      simp only [cond_false]
      congr 1
      omega
    · have h3 : (k == 1) = true := by simp; omega
      have h4 : (c + 7).tdiv 8 = (c + 7) / 8 := Int.tdiv_eq_ediv_of_nonneg (by omega)
      rw [h3, if_pos (by omega), wrap64_id (x := c + 7) (by omega) (by omega), h4, wrap64_id (x := (c + 7) / 8) (by omega) (by omega), wrap64_id (x := 2 + (c + 7) / 8) (by omega) (by omega)]
      simp only [cond_true]
      congr 1
      omega
  · rw [decide_eq_false hc, if_neg hc]
    rfl

theorem recordR (F : Nat) (h : Hp) (ok : h.Ok) (hws : ∀ v ∈ h.ws, 0 ≤ v ∧ v ≤ 18446744073709551615) (w : Int) (h0 : 0 ≤ w) (h1 : w ≤ 18446744073709551615) :
    M.R16_Heap_record F (toR h) w = some (match h.recAt w with | some (b, x) => (⟨x.1, x.2.1, x.2.2⟩, (b : Int), true) | none => (⟨0, 0, 0⟩, 0, false)) := by
  have hhi := ok.hi
  have hlen := ok.len
  have hat : ∀ k : Nat, k < h.ws.length → idx h.ws (k : Int) = some (h.ws.getD k 0) ∧ 0 ≤ h.ws.getD k 0 ∧ h.ws.getD k 0 ≤ 18446744073709551615 := by
    intro k hk
    have e : h.ws[k]? = some (h.ws.getD k 0) := by rw [List.getD_eq_getElem?_getD, List.getElem?_eq_getElem hk]; rfl
    refine ⟨?_, hws _ (List.mem_of_getElem? e)⟩
    unfold idx
    rw [if_pos (by omega), Int.toNat_natCast, e]
  unfold M.R16_Heap_record Hp.recAt
  rw [leftR F h ok w h0 h1]
  simp only [Option.bind_some]
  cases hp : h.pl w with
  | none => rfl
  | some a =>
    have ha := pl_le hp
    have hsp := span_le (h := h) ha.2.1
    simp only
    by_cases c1 : h.span a < 2
    · rw [if_pos c1, show decide ((h.span a : Int) < 2) = true by simp; omega]; rfl
    · rw [if_neg c1, show decide ((h.span a : Int) < 2) = false by simp; omega]
      obtain ⟨i1, i2, i3⟩ := hat (a + 1) (by omega)
      have w1 : IntKind.i64.wrap ((a : Int) + 1) = ((a + 1 : Nat) : Int) := by rw [wrap64_id (by omega) (by omega)]; omega
      simp only [cond_false, w1]
      rw [show (toR h).H.Words = h.ws from rfl, i1]
      simp only [Option.bind_some]
      rw [leftR F h ok _ i2 i3]
      simp only [Option.bind_some]
      cases hq : h.pl (h.ws.getD (a + 1) 0) with
      | none => rfl
      | some b =>
        have hb := pl_le hq
        have hsb := span_le (h := h) hb.2.1
        simp only
        by_cases c2 : h.span b < 2
        · rw [if_pos c2, show decide ((h.span b : Int) < 2) = true by simp; omega]; rfl
        · rw [if_neg c2, show decide ((h.span b : Int) < 2) = false by simp; omega]
          obtain ⟨j1, j2, j3⟩ := hat b (by omega)
          simp only [cond_false, j1, Option.bind_some]
          rw [readR16 F _ j2 j3]
          simp only [Option.bind_some, joinM]
          cases hr : rd (h.ws.getD b 0) with
          | none => rfl
          | some x =>
            simp only [Bool.not_true, cond_false, sizeR16, Option.bind_some]
            by_cases c3 : size x.1 x.2.1 x.2.2 ≤ h.span b
            · rw [if_pos c3, show decide ((h.span b : Int) < (size x.1 x.2.1 x.2.2 : Int)) = false by simp; omega]; rfl
            · rw [if_neg c3, show decide ((h.span b : Int) < (size x.1 x.2.1 x.2.2 : Int)) = true by simp; omega]; rfl

theorem lookR (F : Nat) (h : Hp) (ok : h.Ok) (hws : ∀ v ∈ h.ws, 0 ≤ v ∧ v ≤ 18446744073709551615) (w : Int) (h0 : 0 ≤ w) (h1 : w ≤ 18446744073709551615) :
    M.R16_Heap_Look F (toR h) w = some (match h.recAt w with | some (_, x) => (⟨x.1, x.2.1, x.2.2⟩, 0) | none => (⟨0, 0, 0⟩, 22)) := by
  unfold M.R16_Heap_Look
  rw [recordR F h ok hws w h0 h1]
  cases h.recAt w <;> rfl
theorem whereR (F : Nat) (h : Hp) (ok : h.Ok) (hws : ∀ v ∈ h.ws, 0 ≤ v ∧ v ≤ 18446744073709551615) (w : Int) (h0 : 0 ≤ w) (h1 : w ≤ 18446744073709551615) :
    M.R16_Heap_Where F (toR h) w = some (match h.recAt w with | some (b, _) => ((b : Int), 0) | none => (0, 22)) := by
  unfold M.R16_Heap_Where
  rw [recordR F h ok hws w h0 h1]
  cases h.recAt w <;> rfl

theorem fieldR (F : Nat) (h : Hp) (ok : h.Ok) (hws : ∀ v ∈ h.ws, 0 ≤ v ∧ v ≤ 18446744073709551615) (w k : Int) (h0 : 0 ≤ w) (h1 : w ≤ 18446744073709551615) :
    M.R16_Heap_field F (toR h) w k = some (match h.recAt w with | some (b, x) => (if x.1 = 0 then (if 0 ≤ k ∧ k < x.2.2 then ((b : Int) + 2 + k, 0) else (0, 20)) else (0, 22)) | none => (0, 22)) := by
  have hhi := ok.hi
  unfold M.R16_Heap_field
  rw [recordR F h ok hws w h0 h1]
  cases hr : h.recAt w with
  | none => rfl
  | some bx =>
    obtain ⟨b, x⟩ := bx
    obtain ⟨b1, b2, b3, hcan, _⟩ := recAt_le hr
    unfold Can at hcan
    simp only [Option.bind_some]
    by_cases c0 : x.1 = 0
    · have e0 : (x.1 != 0) = false := by simp [c0]
      simp only [e0, Bool.not_true, Bool.or_self, cond_false]
      rw [if_pos c0]
      by_cases c1 : 0 ≤ k ∧ k < x.2.2
      · have e1 : (decide (k < 0) || decide (x.2.2 ≤ k)) = false := by simp; omega
        rw [e1, if_pos c1, wrap64_id (x := (b : Int) + 2) (by omega) (by omega), wrap64_id (by omega) (by omega)]
        rfl
      · have e1 : (decide (k < 0) || decide (x.2.2 ≤ k)) = true := by simp; omega
        rw [e1, if_neg c1]
        rfl
    · have e0 : (x.1 != 0) = true := by simp [c0]
      simp only [e0, Bool.not_true, Bool.or_true, cond_true]
      rw [if_neg c0]

theorem firstR (F : Nat) (h : Hp) (ok : h.Ok) : M.R16_first F (toR h).H = some (h.begin : Int) := by
  have hhi := ok.hi
  unfold M.R16_first Hp.begin
  show (bif h.up then some (IntKind.i64.wrap ((h.half : Int) + 1)) else some 1) = _
  cases h.up with
  | true => simp only [cond_true, if_true]; rw [wrap64_id (by omega) (by omega)]; rfl
  | false => rfl
theorem roomR (F : Nat) (h : Hp) (ok : h.Ok) : M.R16_Heap_Room F (toR h) = some (h.room : Int) := by
  have hhi := ok.hi
  have hb := h.begin_le
  have hto := ok.to
  unfold M.R16_Heap_Room
  rw [firstR F h ok]
  simp only [Option.bind_some]
  have e : h.room = h.begin + h.half - h.next := rfl
  show some (IntKind.i64.wrap (IntKind.i64.wrap ((h.begin : Int) + (h.half : Int)) - (h.next : Int))) = _
  rw [wrap64_id (x := (h.begin : Int) + (h.half : Int)) (by omega) (by omega), wrap64_id (by omega) (by omega)]
  congr 1
  omega
theorem beginR (F : Nat) (h : Hp) (ok : h.Ok) : M.R16_Heap_Begin F (toR h) = some (h.begin : Int) := by
  unfold M.R16_Heap_Begin
  rw [firstR F h ok]
  rfl
theorem nextR (F : Nat) (h : Hp) : M.R16_Heap_Next F (toR h) = some (h.next : Int) := rfl
end Go.Proofs.Ytfflojbgikfbmaa.Hea
