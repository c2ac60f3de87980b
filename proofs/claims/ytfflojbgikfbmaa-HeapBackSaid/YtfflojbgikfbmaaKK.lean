/-
  HeapBack: bytes, and the end.
-/
import Derived.Test.YtfflojbgikfbmaaKMf
import Derived.Test.YtfflojbgikfbmaaKF
import Derived.Test.YtfflojbgikfbmaaHbW0
import Derived.Test.YtfflojbgikfbmaaHbW1
namespace Go.Proofs.Ytfflojbgikfbmaa.Hea
open Go.Proofs.YtfflojbgikfbmaaW.Ah
open Go.Proofs.Ytfflojbgikfbmaa.Sta (U Er eU wrap_nsub wrap_pred load_u)
set_option maxRecDepth 4000
set_option linter.unusedVariables false
set_option linter.unusedSimpArgs false
attribute [local simp] T.t3 T.t4 T.t5 T.t9 T.t26 T.t34 T.t35 T.t39 T.t40 T.t62 T.t63 T.t70 T.t93 T.t144 Op.maxDepth List.range List.range.loop
attribute [-simp] appendAV cellsOf cellOk partOk
attribute [local simp] cellsOf_sc cellOk_sc partOk_sc cellsOf_own cellOk_own partOk_own cellsOf_osl cellOk_osl partOk_osl cellsOf_sh cellOk_sh partOk_sh cellsOf_ssl cellOk_ssl partOk_ssl cellsOf_esl cellOk_esl partOk_esl cellsOf_fn cellOk_fn partOk_fn cellsOf_omap cellOk_omap partOk_omap cellsOf_agg partOk_agg cellsOf_slv cellOk_slv partOk_slv





theorem textB (x : Int × Int × Int) (l bs : List Int) (more : List (Int × Int × Int)) (hbs : ∀ y ∈ bs, 0 ≤ y ∧ y ≤ 255) (C : Cont) (t : Nat → AV) (H : Mem) (n p i : Nat) (c : Option Nat) (h : Hp) (s : Lies t H n p i c h x l bs more)
    (K : ∀ t H n p i c h, Lies t H n p i c h x l bs more → Stk Try.prog T.T 208 (codes ((seqs body11).drop 20)) t H n C) : Stk Try.prog T.T 208 (codes ((seqs body11).drop 18)) t H n C := by
  refine Stk.cut (l' := (seqs body11).drop 20) [_, _] rfl fun J hJ => ?_
  have t2 := s.t2
  have t13 := s.t13
  have hp0 := s.p0
  have hi0 := s.i0
  rcases s.tb with ⟨w, tb1, tb2, kb⟩ | ⟨w, tb1, tb2, kb⟩
  · obtain ⟨a, hrec, hcan, hlb, hat, hws⟩ := kb.rec s.g s.st.ok
    have h64 : bs.length ≤ 64 := by unfold Can at hcan; simp at hcan; omega
    have htq := textQ s.st hrec rfl (l := packL bs) (by rw [← hlb]; exact hws) hlb
    simp only [Int.toNat_natCast] at htq
    rw [unps_pack bs hbs h64] at htq
    refine evS_sound (f := 9) ?_
    simp [codes, tb2]
    iterate 2 (try (refine evS_sound (f := 8) ?_; simp [t13, tb1]))
    refine Stk.callS 8 htq rfl rfl rfl (by simp) ?_
    rintro v3 H3 n3 ⟨j3, rfl, hj1, hj2, h3j, hc3⟩
    simp
    iterate 1 (try (refine evS_sound (f := 8) ?_; simp [t2]))
    refine Stk.callB 8 [j3] (bytesF bs false false) rfl rfl rfl (by simp [t2]) (.cons (.free (by simp [free, freeL_encs (e := eY) (fun _ => rfl)])) (.cons (view_row (e := eY) (fun _ => rfl) h3j (by simp) (some bs.length)) .nil)) rfl ?_
    simp
    iterate 2 (try (refine evS_sound (f := 8) ?_; simp))
    exact hJ _ _ _ (K _ _ _ p i c h (s.far (fun j hj => by simp [upd, show ¬ j = 26 by omega, show ¬ j = 27 by omega, show ∀ m : Nat, 100 ≤ m → ¬ j = m from fun m hm => by omega]) (hc3.2 0 (by have := s.st.lp; omega)) (s.st.far hc3.1 hc3.2) s.g (.inr rfl)))
  · refine evS_sound (f := 9) ?_
    simp [codes, tb2]
    iterate 2 (try (refine evS_sound (f := 8) ?_; simp [tb2]))
    exact hJ _ _ _ (K _ _ _ p i c h (s.far (fun j hj => by simp [upd, show ∀ m : Nat, 100 ≤ m → ¬ j = m from fun m hm => by omega]) rfl s.st s.g (.inr rfl)))

theorem endB (x : Int × Int × Int) (l bs : List Int) (more : List (Int × Int × Int)) (C : Cont) (hC : ∀ t H n, resOf T.T Try.f11.results.toList ⟨t, H, n⟩ = some (B true) → C .ret t H n) (t : Nat → AV) (H : Mem) (n p i : Nat) (c : Option Nat) (h : Hp) (s : Lies t H n p i c h x l bs more) : Stk Try.prog T.T 208 (codes ((seqs body11).drop 20)) t H n C := by
  have t13 := s.t13
  have hg := s.g
  have hlen := s.st.ok.len
  refine Stk.cut (l' := []) [_, _] rfl fun J hJ => ?_
  refine evS_sound (f := 9) ?_
  simp [codes, t13]
  refine Stk.callS 8 (dumpQ s.st) rfl rfl rfl (by simp) ?_
  rintro v3 H3 n3 ⟨j3, rfl, hj1, hj2, h3j, hc3⟩
  have hfit : RunF Try.prog T.T 61 [.agg [.ssl (encs eU h.ws) (2 * h.half + 1) false, I h.half, B h.up, I h.next, B h.on, I h.scan]] (B true) := by
    have := M.ok_heap_Fit 500 ⟨h.ws, 200, false, h.next, false, 0⟩ true (M.fitC 500 (Nat.le_refl _) h hg s.st.ok)
    rw [← hlen, hg.half, hg.up, hg.on, hg.scan]
    exact this
  have hv := view_row (T := T.T) (ids := [j3]) (e := eU) (fun _ => rfl) h3j (by simp) none
  rw [hlen] at hv
  refine Stk.callB 8 [j3] hfit rfl rfl rfl (by simp) (.cons (.agg (.cons hv (.free rfl))) .nil) rfl ?_
  simp
  refine Stk.callF 8 awake rfl rfl rfl (by simp) rfl rfl ?_
  simp
  iterate 1 (try (refine evS_sound (f := 8) ?_; simp))
  exact hC _ _ _ (by simp)

theorem startB (x : Int × Int × Int) (l bs : List Int) (more : List (Int × Int × Int)) (C : Cont) (hC : ∀ t H n, resOf T.T Try.f11.results.toList ⟨t, H, n⟩ = some (B true) → C .ret t H n)
    (K : l.length ≤ 100 → bs.length ≤ 100 → more.length ≤ 40 → ∀ (t : Nat → AV) (H : Mem) (n : Nat), 0 < n → t 1 = .ssl (encs eU l) l.length false → t 2 = .ssl (encs eY bs) bs.length false → t 3 = .ssl (encs eH more) more.length false → t 4 = .own 0 0 → t 10 = B (decide (Can x.1 x.2.1 x.2.2)) → H 0 = some (.cells (eH x) 34) → Stk Try.prog T.T 208 (codes ((seqs body11).drop 5)) t H n C) : Stk Try.prog T.T 208 (codes (seqs body11)) (initT (args11 x l bs more)) (fun _ => none) 0 C := by
  obtain ⟨W, hW⟩ : ∃ W, W = (if Can x.1 x.2.1 x.2.2 then hv x.1 x.2.1 x.2.2 else 0) := ⟨_, rfl⟩
  obtain ⟨y, hy, hyx⟩ : ∃ y : Int × Int × Int, rdV W = .tup [hd y.1 y.2.1 y.2.2, B (decide (Can x.1 x.2.1 x.2.2))] ∧ (Can x.1 x.2.1 x.2.2 → y = x) := by
    by_cases hc : Can x.1 x.2.1 x.2.2
    · refine ⟨x, ?_, fun _ => rfl⟩
      rw [hW, if_pos hc, rdV_hv hc, decide_eq_true hc]
    · refine ⟨(0, 0, 0), ?_, fun h => absurd h hc⟩
      rw [hW, if_neg hc, rdV_zero, decide_eq_false hc]
  refine Stk.cut (l' := (seqs body11).drop 3) [_, _, _] rfl fun J hJ => ?_
  have hJ2 : ∀ (t : Nat → AV) (H : Mem) (n q : Nat), 0 < n → t 1 = .ssl (encs eU l) l.length false → t 2 = .ssl (encs eY bs) bs.length false → t 3 = .ssl (encs eH more) more.length false → t 4 = .own 0 0 → t 10 = B (decide (Can x.1 x.2.1 x.2.2)) → t 11 = .own q 0 → t 12 = B (decide (Can x.1 x.2.1 x.2.2)) → H 0 = some (.cells (eH x) 34) → H q = some (.cells (eH y) 34) → J 0 t H n := by
    intro t H n q hn0 t1 t2 t3 t4 t10 t11 t12 b0 bq
    refine hJ _ _ _ ?_
    rcases Classical.em (Can x.1 x.2.1 x.2.2) with hc | hc
    · by_cases g1 : 100 < l.length
      · exact big1C x y l bs more C t H n q t1 t2 t3 t4 t10 t11 t12 b0 bq hyx hC hc g1
      · by_cases g2 : 100 < bs.length
        · exact big2C x y l bs more C t H n q t1 t2 t3 t4 t10 t11 t12 b0 bq hyx hC hc g1 g2
        · by_cases g3 : 40 < more.length
          · exact big3C x y l bs more C t H n q t1 t2 t3 t4 t10 t11 t12 b0 bq hyx hC hc g1 g2 g3
          · exact smallC x y l bs more C t H n q t1 t2 t3 t4 t10 t11 t12 b0 bq hyx hc (by omega) (by omega) (by omega) fun t' ht => K (by omega) (by omega) (by omega) t' H n hn0 (by rw [ht _ (by decide)]; exact t1) (by rw [ht _ (by decide)]; exact t2) (by rw [ht _ (by decide)]; exact t3) (by rw [ht _ (by decide)]; exact t4) (by rw [ht _ (by decide)]; exact t10) b0
    · by_cases g1 : 100 < l.length
      · exact big1N x y l bs more C t H n q t1 t2 t3 t4 t10 t11 t12 b0 bq hyx hC hc g1
      · by_cases g2 : 100 < bs.length
        · exact big2N x y l bs more C t H n q t1 t2 t3 t4 t10 t11 t12 b0 bq hyx hC hc g1 g2
        · by_cases g3 : 40 < more.length
          · exact big3N x y l bs more C t H n q t1 t2 t3 t4 t10 t11 t12 b0 bq hyx hC hc g1 g2 g3
          · exact smallN x y l bs more C t H n q t1 t2 t3 t4 t10 t11 t12 b0 bq hyx hc (by omega) (by omega) (by omega) fun t' ht => K (by omega) (by omega) (by omega) t' H n hn0 (by rw [ht _ (by decide)]; exact t1) (by rw [ht _ (by decide)]; exact t2) (by rw [ht _ (by decide)]; exact t3) (by rw [ht _ (by decide)]; exact t4) (by rw [ht _ (by decide)]; exact t10) b0
  refine evS_sound (f := 8) ?_
  simp [codes, partOf]
  iterate 1 (try (refine evS_sound (f := 8) ?_; simp [partOf]))
  refine Stk.callF 8 (headF x.1 x.2.1 x.2.2) rfl rfl rfl (by simp) rfl rfl ?_
  rw [← hW]
  simp
  iterate 1 (try (refine evS_sound (f := 8) ?_; simp [partOf]))
  refine Stk.callF 8 (readF W) rfl rfl rfl (by simp) rfl (by rw [hy]; rfl) ?_
  rw [hy]
  simp [partOf]
  iterate 2 (try (refine evS_sound (f := 8) ?_; simp [partOf]))
  exact hJ2 _ _ _ 1 (by decide) (by simp) (by simp) (by simp) (by simp) (by simp) (by simp) (by simp) (by simp) (by simp)

theorem back (x : Int × Int × Int) (l bs : List Int) (more : List (Int × Int × Int)) (hbs : ∀ y ∈ bs, 0 ≤ y ∧ y ≤ 255) : RunF Try.prog T.T 11 (args11 x l bs more) (B true) := by
  refine RunF.parts (c := body11) Try.func11 (by rfl) rfl rfl rfl rfl fun C hr hn => ?_
  refine startB x l bs more C hr (fun hl hb hm t H n hn0 t1 t2 t3 t4 t10 b0 => ?_)
  exact putsB x l bs more C t H n hn0 t1 t2 t3 t4 t10 b0 fun t H n p i c h s t10 => checkB x l bs more C t H n p i c h s t10 fun t H n p i c h s => moreB x l bs more hm C t H n p i c h s fun t H n p i c h s => fieldsB x l bs more hl C t H n p i c h s fun t H n p i c h s => lookB x l bs more C t H n p i c h s fun t H n p i c h s => textB x l bs more hbs C t H n p i c h s fun t H n p i c h s => endB x l bs more C hr t H n p i c h s
end Go.Proofs.Ytfflojbgikfbmaa.Hea
