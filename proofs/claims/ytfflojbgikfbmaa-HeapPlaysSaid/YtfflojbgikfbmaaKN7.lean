/-
  HeapPlays: its loop over all that is done.
-/
import Derived.Test.YtfflojbgikfbmaaKN5
import Derived.Test.YtfflojbgikfbmaaKN6
import Derived.Test.YtfflojbgikfbmaaKFit
import Derived.Test.YtfflojbgikfbmaaHrW2
import Derived.Test.YtfflojbgikfbmaaHrW3
namespace Go.Proofs.Ytfflojbgikfbmaa.Hea
open Go.Proofs.YtfflojbgikfbmaaW.Ah
open Go.Proofs.Ytfflojbgikfbmaa.Sta (U Er eU wrap_nsub wrap_pred load_u)
set_option maxRecDepth 4000
set_option linter.unusedVariables false
set_option linter.unusedSimpArgs false
attribute [local simp] T.t3 T.t4 T.t5 T.t9 T.t26 T.t34 T.t35 T.t39 T.t40 T.t62 T.t63 T.t70 T.t93 T.t106 T.t113 T.t144 T.t108 T.t176 Op.maxDepth List.range List.range.loop
attribute [-simp] appendAV cellsOf cellOk partOk
attribute [local simp] cellsOf_sc cellOk_sc partOk_sc cellsOf_own cellOk_own partOk_own cellsOf_osl cellOk_osl partOk_osl cellsOf_sh cellOk_sh partOk_sh cellsOf_ssl cellOk_ssl partOk_ssl cellsOf_esl cellOk_esl partOk_esl cellsOf_fn cellOk_fn partOk_fn cellsOf_omap cellOk_omap partOk_omap cellsOf_agg partOk_agg cellsOf_slv cellOk_slv partOk_slv

noncomputable def body12 : Code := Try.f12.body.getD .skip
open M (c113)

theorem same_eq (F : Nat) (xs : List Int) (hl : xs.length ≤ 40000) (half next scan : Int) (up on : Bool) (hF : 50000 ≤ F) : M.R16_Same F ⟨xs, half, up, next, on, scan⟩ ⟨xs, half, up, next, on, scan⟩ = some true := by
  have key : ∀ m q : Nat, q ≤ xs.length → xs.length - q < m → M.R16_Same_L0 F ⟨xs, half, up, next, on, scan⟩ ⟨xs, half, up, next, on, scan⟩ m (q : Int) = some true := by
    intro m
    induction m with
    | zero => intro q _ h; omega
    | succ m ih =>
      intro q hq hm
      rw [M.R16_Same_L0]
      by_cases h : q < xs.length
      · have d1 : decide ((q : Int) < (xs.length : Int)) = true := by simp; omega
        have hi : idx xs (q : Int) = some xs[q] := by rw [M.idx_nat, List.getElem?_eq_getElem h]
        have w : IntKind.i64.wrap ((q : Int) + 1) = ((q + 1 : Nat) : Int) := by rw [wrap64_id (by omega) (by omega)]; omega
        simp only [d1, cond_true, hi, Option.bind_some, bne_self_eq_false, cond_false, w]
        exact ih (q + 1) (by omega) (by omega)
      · have d1 : decide ((q : Int) < (xs.length : Int)) = false := by simp; omega
        simp only [d1, cond_false]
  rw [M.R16_Same]
  have := key F 0 (by omega) (by omega)
  simpa using this

theorem sameD {H : Mem} {n : Nat} (ws : List Int) (half next scan : Int) (up on : Bool) (hl : ws.length ≤ 40000) : RunF Try.prog T.T 73 [.agg [.ssl (encs eU ws) ws.length false, I half, B up, I next, B on, I scan], .agg [.ssl (encs eU ws) ws.length false, I half, B up, I next, B on, I scan]] (B true) :=
  M.ok_R16_Same 50000 ⟨ws, half, up, next, on, scan⟩ ⟨ws, half, up, next, on, scan⟩ true (same_eq 50000 ws hl half next scan up on (by omega))

theorem loopHeaps {H : Mem} {n p i p' i' : Nat} {c c' : Option Nat} {h : Hp} (s : Two H n p i c p' i' c' h) (xs : List M.handloomlaw16_Do) (hl : xs.length ≤ 60) (hx : ∀ d ∈ xs, DoOk d ∧ 0 ≤ d.Kind) (t : Nat → AV) (t2 : t 2 = .ssl (encs c113 xs) xs.length false) (t7 : t 7 = .own p 0) (t9 : t 9 = .own p' 0) (C : Cont)
    (hr : ∀ t H n, resOf T.T Try.f12.results.toList ⟨t, H, n⟩ = some (B true) → C .ret t H n) :
    Stk Try.prog T.T 106 (codes ((seqs body12).drop 11)) t H n C := by
  refine Stk.cut (l' := (seqs body12).drop 15) [_, _, _, _] rfl fun J hJ => ?_
  refine evS_sound (f := 5) ?_
  simp [codes, t2]
  iterate 4 (try (refine evS_sound (f := 4) ?_; simp [t2]))
  refine Stk.loop 4 (fun μ t H n => ∃ (m : Nat) (h : Hp), m ≤ xs.length ∧ μ = xs.length - m ∧ t 7 = .own p 0 ∧ t 9 = .own p' 0 ∧ t 65 = .ssl (encs c113 xs) xs.length false ∧ t 66 = I xs.length ∧ t 67 = I m ∧ Two H n p i c p' i' c' h) xs.length
    ⟨0, h, Nat.zero_le _, rfl, by simp [t7], by simp [t9], by simp, by simp, by simp, s⟩ ?_
  rintro J2 hJ2 μ t H n ⟨m, h, hml, rfl, t7, t9, t65, t66, t67, s⟩
  by_cases hlt : m < xs.length
  · have hlti : (m : Int) < xs.length := by omega
    have hld : partOf T.T 113 (List.drop (m * 7) (encs c113 xs)) 0 = some (.agg (c113 xs[m])) := part_agg (e := c113) (z := 7) T.t113 rfl rfl xs m hlt
    obtain ⟨d, hxd⟩ : ∃ d, xs[m] = d := ⟨_, rfl⟩
    obtain ⟨hok, hk0⟩ := hx xs[m] (List.getElem_mem hlt)
    rw [hxd] at hld hok hk0
    have hsm := fun {H n h} (s : Two H n p i c p' i' c' h) => sameQ s d hok hk0
    obtain ⟨kd, ⟨d1, d2, d3⟩, dl, dw, di⟩ := d
    simp only [DoA, box113] at hld hsm
    obtain ⟨Y, hY⟩ : ∃ Y : Mem, Y = upd (upd H n (some (.cells [.sc (.int .u8 0), .sc (.int .i64 0), .sc (.int .i64 0), .sc (.int .i64 0), .sc (.slice none 0 0), .sc (.int .u64 0), .sc (.int .i64 0)] 113))) n (some (.cells [.sc (.int .u8 kd), I d1, I d2, I d3, .ssl (encs eU dl) dl.length false, U dw, I di] 113)) := ⟨_, rfl⟩
    have hYk : ∀ j, j < n → Y j = H j := fun j hj => by rw [hY, upd_ne _ _ (by omega), upd_ne _ _ (by omega)]
    have sy := s.far (n' := n + 1) (by omega) hYk
    have yn : Y n = some (.cells [.sc (.int .u8 kd), I d1, I d2, I d3, .ssl (encs eU dl) dl.length false, U dw, I di] 113) := by rw [hY, upd_same]
    simp [t65, t66, t67, hlt, hlti]
    iterate 8 (try (refine evS_sound (f := 4) ?_; simp [t65, t66, t67, t7, t9, hlt, hlti, hld, yn, ← hY]))
    (try simp [yn, partOf])
    refine Stk.callS 8 (hsm sy) rfl rfl rfl (by simp) ?_
    rintro v H1 n1 ⟨rfl, g1, k1, h1, s1⟩
    simp
    iterate 6 (try (refine evS_sound (f := 8) ?_; simp [t7, t9]))
    refine Stk.callS 8 (room s1.a) rfl rfl rfl (by simp [t7]) ?_
    rintro v H2 n2 ⟨rfl, hc2⟩
    have s2 := s1.far hc2.1 hc2.2
    simp
    iterate 6 (try (refine evS_sound (f := 8) ?_; simp [t7, t9]))
    refine Stk.callB 8 [p', i'] (M.ok_R16_Heap_Room 0 (toR h1) _ (roomR 0 h1 s1.a.ok)) rfl rfl rfl (by simp [t9]) (.cons (viewR s2.b) .nil) rfl ?_
    simp
    iterate 6 (try (refine evS_sound (f := 8) ?_; simp [t7, t9]))
    refine Stk.callS 8 (begin s2.a) rfl rfl rfl (by simp [t7]) ?_
    rintro v H3 n3 ⟨rfl, hc3⟩
    have s3 := s2.far hc3.1 hc3.2
    simp
    iterate 6 (try (refine evS_sound (f := 8) ?_; simp [t7, t9]))
    refine Stk.callB 8 [p', i'] (M.ok_R16_Heap_Begin 0 (toR h1) _ (beginR 0 h1 s1.a.ok)) rfl rfl rfl (by simp [t9]) (.cons (viewR s3.b) .nil) rfl ?_
    simp
    iterate 6 (try (refine evS_sound (f := 8) ?_; simp [t7, t9]))
    refine Stk.callS 8 (next s3.a) rfl rfl rfl (by simp [t7]) ?_
    rintro v H4 n4 ⟨rfl, rfl, rfl⟩
    simp
    iterate 6 (try (refine evS_sound (f := 8) ?_; simp [t7, t9]))
    refine Stk.callB 8 [p', i'] (M.ok_R16_Heap_Next 0 (toR h1) _ (nextR 0 h1)) rfl rfl rfl (by simp [t9]) (.cons (viewR s3.b) .nil) rfl ?_
    have wm := wrap_succ m (by omega)
    simp [t67, wm]
    iterate 8 (try (refine evS_sound (f := 8) ?_; simp [t67, wm]))
    exact ⟨xs.length - (m + 1), by omega, hJ2 _ _ _ _ ⟨m + 1, h1, by omega, rfl, by simp [t7], by simp [t9], by simp [t65], by simp [t66], by simp, s3⟩⟩
  · have hm : m = xs.length := by omega
    subst hm
    simp [t66, t67]
    iterate 4 (try (refine evS_sound (f := 4) ?_; simp [t7, t9]))
    refine Stk.callS 8 (dumpQ s.a) rfl rfl rfl (by simp [t7]) ?_
    rintro v H1 n1 ⟨j1, rfl, hj1, hj2, hj3, hc1⟩
    have s1 := s.far hc1.1 hc1.2
    simp
    iterate 6 (try (refine evS_sound (f := 8) ?_; simp [t7, t9]))
    refine Stk.callS 8 (dumpR s1.b) rfl rfl rfl (by simp [t9]) ?_
    rintro v H2 n2 ⟨j2, rfl, hj4, hj5, hj6, hc2⟩
    simp
    iterate 6 (try (refine evS_sound (f := 8) ?_; simp [t7, t9]))
    have hlen := s.a.ok.len
    have hhi := s.a.ok.hi
    have v1 : View T.T H2 [j1, j2] (.osl j1 0 (2 * h.half + 1) none) (.ssl (encs eU h.ws) h.ws.length false) := by
      rw [← hlen]
      exact view_row (T := T.T) (e := eU) (fun _ => rfl) (by rw [hc2.2 j1 hj2]; exact hj3) (by simp) none
    have v2 : View T.T H2 [j1, j2] (.osl j2 0 (2 * h.half + 1) none) (.ssl (encs eU h.ws) h.ws.length false) := by
      rw [← hlen]
      exact view_row (T := T.T) (e := eU) (fun _ => rfl) hj6 (by simp) none
    refine Stk.callB 8 [j1, j2] (sameD (H := H2) (n := n2) h.ws h.half h.next h.scan h.up h.on (by omega)) rfl rfl rfl (by simp) (.cons (.agg (.cons v1 (.free rfl))) (.cons (.agg (.cons v2 (.free rfl))) .nil)) rfl ?_
    simp
    iterate 6 (try (refine evS_sound (f := 8) ?_; simp))
    refine Stk.callF 8 awake rfl rfl rfl (by simp) rfl rfl ?_
    simp
    iterate 6 (try (refine evS_sound (f := 8) ?_; simp))
    exact hr _ _ _ (by simp)

theorem loopNil {H : Mem} {n : Nat} (xs : List M.handloomlaw16_Do) (hl : xs.length ≤ 60) (hx : ∀ d ∈ xs, DoOk d ∧ 0 ≤ d.Kind) (t : Nat → AV) (t2 : t 2 = .ssl (encs c113 xs) xs.length false) (t7 : t 7 = P0) (t9 : t 9 = P0) (C : Cont)
    (hr : ∀ t H n, resOf T.T Try.f12.results.toList ⟨t, H, n⟩ = some (B true) → C .ret t H n) :
    Stk Try.prog T.T 106 (codes ((seqs body12).drop 11)) t H n C := by
  refine Stk.cut (l' := (seqs body12).drop 15) [_, _, _, _] rfl fun J hJ => ?_
  refine evS_sound (f := 5) ?_
  simp [codes, t2]
  iterate 4 (try (refine evS_sound (f := 4) ?_; simp [t2]))
  refine Stk.loop 4 (fun μ t H n => ∃ (m : Nat), m ≤ xs.length ∧ μ = xs.length - m ∧ t 7 = P0 ∧ t 9 = P0 ∧ t 65 = .ssl (encs c113 xs) xs.length false ∧ t 66 = I xs.length ∧ t 67 = I m) xs.length
    ⟨0, Nat.zero_le _, rfl, by simp [t7], by simp [t9], by simp, by simp, by simp⟩ ?_
  rintro J2 hJ2 μ t H n ⟨m, hml, rfl, t7, t9, t65, t66, t67⟩
  by_cases hlt : m < xs.length
  · have hlti : (m : Int) < xs.length := by omega
    have hld : partOf T.T 113 (List.drop (m * 7) (encs c113 xs)) 0 = some (.agg (c113 xs[m])) := part_agg (e := c113) (z := 7) T.t113 rfl rfl xs m hlt
    obtain ⟨d, hxd⟩ : ∃ d, xs[m] = d := ⟨_, rfl⟩
    obtain ⟨hok, hk0⟩ := hx xs[m] (List.getElem_mem hlt)
    rw [hxd] at hld hok hk0
    have hsm := fun (H : Mem) (n : Nat) => sameN H n d hk0
    obtain ⟨kd, ⟨d1, d2, d3⟩, dl, dw, di⟩ := d
    simp only [DoA, box113] at hld hsm
    obtain ⟨Y, hY⟩ : ∃ Y : Mem, Y = upd (upd H n (some (.cells [.sc (.int .u8 0), .sc (.int .i64 0), .sc (.int .i64 0), .sc (.int .i64 0), .sc (.slice none 0 0), .sc (.int .u64 0), .sc (.int .i64 0)] 113))) n (some (.cells [.sc (.int .u8 kd), I d1, I d2, I d3, .ssl (encs eU dl) dl.length false, U dw, I di] 113)) := ⟨_, rfl⟩
    have yn : Y n = some (.cells [.sc (.int .u8 kd), I d1, I d2, I d3, .ssl (encs eU dl) dl.length false, U dw, I di] 113) := by rw [hY, upd_same]
    simp [t65, t66, t67, hlt, hlti]
    iterate 8 (try (refine evS_sound (f := 4) ?_; simp [t65, t66, t67, t7, t9, hlt, hlti, hld, yn, ← hY]))
    (try simp [yn, partOf])
    refine Stk.callS 8 (hsm _ _) rfl rfl rfl (by simp) ?_
    rintro v H1 n1 ⟨rfl, _⟩
    simp
    iterate 6 (try (refine evS_sound (f := 8) ?_; simp [t7, t9]))
    refine Stk.callS 8 (roomN _ _) rfl rfl rfl (by simp [t7]) ?_
    rintro v H2 n2 ⟨rfl, _⟩
    simp
    iterate 6 (try (refine evS_sound (f := 8) ?_; simp [t7, t9]))
    refine Stk.callS 8 (roomNR _ _) rfl rfl rfl (by simp [t9]) ?_
    rintro v H3 n3 ⟨rfl, _⟩
    simp
    iterate 6 (try (refine evS_sound (f := 8) ?_; simp [t7, t9]))
    refine Stk.callS 8 (beginN _ _) rfl rfl rfl (by simp [t7]) ?_
    rintro v H4 n4 ⟨rfl, _⟩
    simp
    iterate 6 (try (refine evS_sound (f := 8) ?_; simp [t7, t9]))
    refine Stk.callS 8 (beginNR _ _) rfl rfl rfl (by simp [t9]) ?_
    rintro v H5 n5 ⟨rfl, _⟩
    simp
    iterate 6 (try (refine evS_sound (f := 8) ?_; simp [t7, t9]))
    refine Stk.callS 8 (nextN _ _) rfl rfl rfl (by simp [t7]) ?_
    rintro v H6 n6 ⟨rfl, _⟩
    simp
    iterate 6 (try (refine evS_sound (f := 8) ?_; simp [t7, t9]))
    refine Stk.callS 8 (nextNR _ _) rfl rfl rfl (by simp [t9]) ?_
    rintro v H7 n7 ⟨rfl, _⟩
    have wm := wrap_succ m (by omega)
    simp [t67, wm]
    iterate 8 (try (refine evS_sound (f := 8) ?_; simp [t67, wm]))
    exact ⟨xs.length - (m + 1), by omega, hJ2 _ _ _ _ ⟨m + 1, by omega, rfl, by simp [t7], by simp [t9], by simp [t65], by simp [t66], by simp⟩⟩
  · have hm : m = xs.length := by omega
    subst hm
    simp [t66, t67]
    iterate 4 (try (refine evS_sound (f := 4) ?_; simp [t7, t9]))
    refine Stk.callS 8 (dumpN _ _) rfl rfl rfl (by simp [t7]) ?_
    rintro v H1 n1 ⟨rfl, _⟩
    simp
    iterate 6 (try (refine evS_sound (f := 8) ?_; simp [t7, t9]))
    refine Stk.callS 8 (dumpNR _ _) rfl rfl rfl (by simp [t9]) ?_
    rintro v H2 n2 ⟨rfl, _⟩
    simp
    iterate 6 (try (refine evS_sound (f := 8) ?_; simp [t7, t9]))
    refine Stk.callF 8 (sameD (H := H2) (n := n2) [] 0 0 0 false false (by simp)) rfl rfl rfl (by simp) rfl rfl ?_
    simp
    iterate 6 (try (refine evS_sound (f := 8) ?_; simp))
    refine Stk.callF 8 awake rfl rfl rfl (by simp) rfl rfl ?_
    simp
    iterate 6 (try (refine evS_sound (f := 8) ?_; simp))
    exact hr _ _ _ (by simp)
end Go.Proofs.Ytfflojbgikfbmaa.Hea

/-
  HeapPlays: from its arguments to its loop.
-/
namespace Go.Proofs.Ytfflojbgikfbmaa.Hea
open Go.Proofs.YtfflojbgikfbmaaW.Ah
open Go.Proofs.Ytfflojbgikfbmaa.Sta (U Er eU wrap_nsub wrap_pred load_u)
set_option maxRecDepth 4000
set_option linter.unusedVariables false
set_option linter.unusedSimpArgs false
attribute [local simp] T.t3 T.t4 T.t5 T.t9 T.t26 T.t34 T.t35 T.t39 T.t40 T.t62 T.t63 T.t70 T.t93 T.t106 T.t113 T.t144 T.t108 T.t176 Op.maxDepth List.range List.range.loop
attribute [-simp] appendAV cellsOf cellOk partOk
attribute [local simp] cellsOf_sc cellOk_sc partOk_sc cellsOf_own cellOk_own partOk_own cellsOf_osl cellOk_osl partOk_osl cellsOf_sh cellOk_sh partOk_sh cellsOf_ssl cellOk_ssl partOk_ssl cellsOf_esl cellOk_esl partOk_esl cellsOf_fn cellOk_fn partOk_fn cellsOf_omap cellOk_omap partOk_omap cellsOf_agg partOk_agg cellsOf_slv cellOk_slv partOk_slv

open M (c113)
theorem fit_hp (F : Nat) (a : M.api_Heap) (hb : M.R16_Fit F a = some true) : ∃ h : Hp, h.Ok ∧ a = ⟨h.ws, h.half, h.up, h.next, h.on, h.scan⟩ := by
  rw [M.R16_Fit] at hb
  simp only [joinM] at hb
  cases hc : (((decide (a.Half < 16)) || (decide (16384 < a.Half))) || ((a.Words.length : Int) != (IntKind.i64.wrap ((IntKind.i64.wrap (2 * a.Half)) + 1)))) with
  | true => rw [hc] at hb; cases hb
  | false =>
    rw [hc] at hb
    simp only [Bool.or_eq_false_iff, decide_eq_false_iff_not, bne_eq_false_iff_eq] at hc
    obtain ⟨⟨c1, c2⟩, c3⟩ := hc
    rw [M.wrap_ok (x := 2 * a.Half) (by omega) (by omega), M.wrap_ok (by omega) (by omega)] at c3
    simp only [cond_false] at hb
    obtain ⟨w, hw, hb⟩ := bnd hb
    cases hz : (w != 0) with
    | true => rw [hz] at hb; cases hb
    | false =>
      rw [hz] at hb
      simp only [cond_false] at hb
      obtain ⟨bg, h1, hb⟩ := bnd hb
      have hbg : bg = if a.Up then a.Half + 1 else 1 := by
        rw [M.R16_first] at h1
        cases hu : a.Up with
        | true => rw [hu] at h1; simp only [cond_true, Option.some.injEq] at h1; rw [← h1, M.wrap_ok (by omega) (by omega)]; rfl
        | false => rw [hu] at h1; simp only [cond_false, Option.some.injEq] at h1; rw [← h1]; rfl
      have hbb : 1 ≤ bg ∧ bg ≤ a.Half + 1 := by rw [hbg]; split <;> omega
      cases hn : ((decide (a.Next < bg)) || (decide ((IntKind.i64.wrap (bg + a.Half)) < a.Next))) with
      | true => rw [hn] at hb; cases hb
      | false =>
        simp only [Bool.or_eq_false_iff, decide_eq_false_iff_not] at hn
        rw [M.wrap_ok (x := bg + a.Half) (by omega) (by omega)] at hn
        obtain ⟨ws, half, up, next, on, scan⟩ := a
        simp only at *
        obtain ⟨k, rfl⟩ := Int.eq_ofNat_of_zero_le (show 0 ≤ half by omega)
        obtain ⟨m, rfl⟩ := Int.eq_ofNat_of_zero_le (show 0 ≤ next by omega)
        refine ⟨⟨ws, k, up, m, on, scan⟩, ⟨by show 16 ≤ k; omega, by show k ≤ 16384; omega, by show ws.length = 2 * k + 1; omega, ?_, ?_⟩, rfl⟩
        · show (if up = true then k + 1 else 1) ≤ m
          cases up <;> simp at hbg ⊢ <;> omega
        · show m ≤ (if up = true then k + 1 else 1) + k
          cases up <;> simp at hbg ⊢ <;> omega

theorem mid (s : M.api_Heap) (half : Int) (xs : List M.handloomlaw16_Do) (hx : ∀ d ∈ xs, DoOk d ∧ 0 ≤ d.Kind) (hl : xs.length ≤ 60) (hsw : ∀ v ∈ s.Words, In64 v) (b : Bool) (F1 : RunF Try.prog T.T 61 [.agg (M.c93 s)] (B b)) (F2 : RunF Try.prog T.T 62 [.agg (M.c93 s)] (B b))
    (hb : b = true → ∃ h : Hp, h.Ok ∧ s = ⟨h.ws, h.half, h.up, h.next, h.on, h.scan⟩) {t : Nat → AV} {H : Mem} {n q : Nat} (t1 : t 1 = I half) (t2 : t 2 = .ssl (encs c113 xs) xs.length false) (t3 : t 3 = .own q 0) (hq : H q = some (.cells (M.c93 s) 93)) (hqn : q < n) (C : Cont)
    (hr : ∀ t H n, resOf T.T Try.f12.results.toList ⟨t, H, n⟩ = some (B true) → C .ret t H n) : Stk Try.prog T.T 106 (codes ((seqs body12).drop 3)) t H n C := by
  have hc93 : M.c93 s = [.ssl (encs eU s.Words) s.Words.length false, I s.Half, B s.Up, I s.Next, B s.On, I s.Scan] := rfl
  rw [hc93] at hq F1 F2
  refine Stk.cut (l' := (seqs body12).drop 11) [_, _, _, _, _, _, _, _] rfl fun J hJ => ?_
  refine evS_sound (f := 9) ?_
  simp [codes, t3, hq, partOf]
  cases b with
  | true =>
    obtain ⟨h, hok, rfl⟩ := hb rfl
    refine Stk.callS 8 (fromY H n h hok F1) rfl rfl rfl (by simp) ?_
    rintro v H1 n1 ⟨p, i, rfl, hp0, hi0, hc1, st⟩
    have g1 := hc1.1
    have h1q := (hc1.2 q hqn).trans hq
    simp [t3, h1q, partOf]
    iterate 6 (try (refine evS_sound (f := 8) ?_; simp [t3, h1q, partOf]))
    refine Stk.callS 8 (fromRY H1 n1 h hok F2) rfl rfl rfl (by simp) ?_
    rintro v H2 n2 ⟨p', i', rfl, hp1, hi1, hc2, st2⟩
    have lp := st.lp
    have li := st.li
    have tw : Two H2 n2 p i none p' i' none h := ⟨st.far hc2.1 hc2.2, st2, by omega, by omega, by omega, by omega, hsw⟩
    simp
    iterate 8 (try (refine evS_sound (f := 8) ?_; simp))
    exact hJ _ _ _ (loopHeaps tw xs hl hx _ (by simp [t2]) (by simp) (by simp) C hr)
  | false =>
    refine Stk.callS 8 (fromN H n s.Words s.Half s.Next s.Scan s.Up s.On F1) rfl rfl rfl (by simp) ?_
    rintro v H1 n1 ⟨rfl, hc1⟩
    have h1q := (hc1.2 q hqn).trans hq
    simp [t3, h1q, partOf]
    iterate 6 (try (refine evS_sound (f := 8) ?_; simp [t3, h1q, partOf]))
    refine Stk.callS 8 (fromRN H1 n1 s.Words s.Half s.Next s.Scan s.Up s.On F2) rfl rfl rfl (by simp) ?_
    rintro v H2 n2 ⟨rfl, hc2⟩
    simp [t1]
    iterate 8 (try (refine evS_sound (f := 8) ?_; simp [t1]))
    refine Stk.callS 8 (new H2 n2 half) rfl rfl rfl (by simp) ?_
    intro v H3 n3 hv
    by_cases hh : 16 ≤ half ∧ half ≤ 16384
    · rw [if_pos hh] at hv
      obtain ⟨p, i, rfl, hp0, hi0, hc3, st⟩ := hv
      simp [t1]
      iterate 8 (try (refine evS_sound (f := 8) ?_; simp [t1]))
      have hrn := newR H3 n3 half
      simp only [if_pos hh] at hrn
      refine Stk.callS 8 hrn rfl rfl rfl (by simp) ?_
      rintro v H4 n4 ⟨p', i', rfl, hp1, hi1, hc4, st2⟩
      have lp := st.lp
      have li := st.li
      have tw : Two H4 n4 p i (some (2 * half.toNat + 1)) p' i' (some (2 * half.toNat + 1)) _ := ⟨st.far hc4.1 hc4.2, st2, by omega, by omega, by omega, by omega, fun v hv => by rw [List.eq_of_mem_replicate hv]; decide⟩
      simp
      iterate 8 (try (refine evS_sound (f := 8) ?_; simp))
      exact hJ _ _ _ (loopHeaps tw xs hl hx _ (by simp [t2]) (by simp) (by simp) C hr)
    · rw [if_neg hh] at hv
      obtain ⟨rfl, hc3⟩ := hv
      simp [t1]
      iterate 8 (try (refine evS_sound (f := 8) ?_; simp [t1]))
      have hrn := newR H3 n3 half
      simp only [if_neg hh] at hrn
      refine Stk.callS 8 hrn rfl rfl rfl (by simp) ?_
      rintro v H4 n4 ⟨rfl, hc4⟩
      simp
      iterate 8 (try (refine evS_sound (f := 8) ?_; simp))
      exact hJ _ _ _ (loopNil xs hl hx _ (by simp [t2]) (by simp) (by simp) C hr)

theorem plays (s : M.api_Heap) (half : Int) (xs : List M.handloomlaw16_Do) (ws : M.W93 s) (wh : M.W3 half) (wx : M.W106 xs) : RunF Try.prog T.T 12 [.agg (M.c93 s), I half, .ssl (encs c113 xs) xs.length false] (B true) := by
  have hx : ∀ d ∈ xs, DoOk d ∧ 0 ≤ d.Kind := by
    intro d hd
    obtain ⟨w1, w2, w3, w4, w5⟩ := wx.2 d hd
    have hm : maxLen ≤ 9223372036854775807 := by decide
    refine ⟨⟨fun v hv => ?_, by have := w3.1; omega, ?_⟩, ?_⟩
    · have := w3.2 v hv; simpa [M.W40, IntKind.min, IntKind.max, IntKind.signed, IntKind.bits] using this
    · simpa [M.W40, IntKind.min, IntKind.max, IntKind.signed, IntKind.bits] using w4
    · have : M.W5 d.Kind := w1
      simp [M.W5, IntKind.min, IntKind.max, IntKind.signed, IntKind.bits] at this; exact this.1
  have hsw : ∀ v ∈ s.Words, In64 v := fun v hv => by
    have := ws.1.2 v hv
    simpa [M.W40, IntKind.min, IntKind.max, IntKind.signed, IntKind.bits] using this
  have htn := M.ok_L16_tiny 0 s _ rfl
  have hc93 : M.c93 s = [.ssl (encs eU s.Words) s.Words.length false, I s.Half, B s.Up, I s.Next, B s.On, I s.Scan] := rfl
  by_cases g1 : s.Words.length ≤ 500 ∧ xs.length ≤ 60 ∧ ¬ (300 < half ∧ half ≤ 16384)
  · obtain ⟨a1, a2, a3⟩ := g1
    have a1i : (s.Words.length : Int) ≤ 500 := by omega
    have a2n : ¬ 60 < xs.length := by omega
    have a2i : ¬ (60 : Int) < xs.length := by omega
    obtain ⟨b, f1, f2⟩ := M.fit_ok 2000 (by omega) s hsw a1 ws.2.2.2.1
    have F1 := M.ok_heap_Fit 2000 s b f1
    have F2 := M.ok_R16_Fit 2000 s b f2
    refine RunF.parts (c := body12) Try.func12 (by rfl) rfl rfl rfl rfl fun C hr hn => ?_
    refine Stk.cut (l' := (seqs body12).drop 3) [_, _, _] rfl fun J hJ => ?_
    refine evS_sound (f := 9) ?_
    rw [hc93] at htn
    simp [codes, hc93, partOf]
    iterate 3 (try (refine evS_sound (f := 8) ?_; simp [partOf]))
    refine Stk.callF 8 htn rfl rfl rfl (by simp) (by simp [freeL, free, freeL_encs (e := eU) (fun _ => rfl)]) rfl ?_
    have fin : ∀ t H n, t 1 = I half → t 2 = .ssl (encs c113 xs) xs.length false → t 3 = .own 0 0 → H 0 = some (.cells (M.c93 s) 93) → 0 < n → J 0 t H n := fun t H n t1 t2 t3 h0 hn0 => hJ _ _ _ (mid s half xs hx a2 hsw b F1 F2 (fun e => fit_hp 2000 s (by rw [f2, e])) t1 t2 t3 h0 hn0 C hr)
    by_cases a4 : 300 < half
    · have a5 : ¬ half ≤ 16384 := fun e => a3 ⟨a4, e⟩
      simp [a1, a1i, a2n, a2i, a4, a5]
      iterate 4 (try (refine evS_sound (f := 8) ?_; simp [a1, a1i, a2n, a2i, a4, a5, partOf]))
      exact fin _ _ _ (by simp) (by simp) (by simp) (by simp [hc93]) (by omega)
    · simp [a1, a1i, a2n, a2i, a4]
      iterate 4 (try (refine evS_sound (f := 8) ?_; simp [a1, a1i, a2n, a2i, a4, partOf]))
      exact fin _ _ _ (by simp) (by simp) (by simp) (by simp [hc93]) (by omega)
  · have g1i : (s.Words.length : Int) ≤ 500 ↔ s.Words.length ≤ 500 := by omega
    have g2i : (60 : Int) < xs.length ↔ 60 < xs.length := by omega
    refine RunF.ev 9 Try.func12 rfl rfl rfl rfl rfl fun C hr hn => ?_
    rw [hc93]
    rw [hc93] at htn
    simp [partOf]
    by_cases a1 : s.Words.length ≤ 500
    · have a1i : (s.Words.length : Int) ≤ 500 := by omega
      by_cases a2 : 60 < xs.length
      · have a2i : (60 : Int) < xs.length := by omega
        refine Stk.callF 8 htn rfl rfl rfl (by simp) (by simp [freeL, free, freeL_encs (e := eU) (fun _ => rfl)]) rfl ?_
        simp [a1, a1i, a2, a2i]
        iterate 6 (try (refine evS_sound (f := 8) ?_; simp [a1, a1i, a2, a2i]))
        refine Stk.callF 8 awake rfl rfl rfl (by simp) rfl rfl ?_
        simp
        iterate 6 (try (refine evS_sound (f := 8) ?_; simp))
        exact hr _ _ _ (by simp)
      · have a2i : ¬ (60 : Int) < xs.length := by omega
        have a3 : 300 < half ∧ half ≤ 16384 := by omega
        obtain ⟨a3, a4⟩ := a3
        refine Stk.callF 8 htn rfl rfl rfl (by simp) (by simp [freeL, free, freeL_encs (e := eU) (fun _ => rfl)]) rfl ?_
        simp [a1, a1i, a2, a2i, a3, a4]
        iterate 6 (try (refine evS_sound (f := 8) ?_; simp [a1, a1i, a2, a2i, a3, a4]))
        refine Stk.callF 8 awake rfl rfl rfl (by simp) rfl rfl ?_
        simp
        iterate 6 (try (refine evS_sound (f := 8) ?_; simp))
        exact hr _ _ _ (by simp)
    · refine Stk.callF 8 htn rfl rfl rfl (by simp) (by simp [freeL, free, freeL_encs (e := eU) (fun _ => rfl)]) rfl ?_
      have a1i : ¬ (s.Words.length : Int) ≤ 500 := by omega
      simp [a1, a1i]
      iterate 6 (try (refine evS_sound (f := 8) ?_; simp [a1, a1i]))
      refine Stk.callF 8 awake rfl rfl rfl (by simp) rfl rfl ?_
      simp
      iterate 6 (try (refine evS_sound (f := 8) ?_; simp))
      exact hr _ _ _ (by simp)
end Go.Proofs.Ytfflojbgikfbmaa.Hea
