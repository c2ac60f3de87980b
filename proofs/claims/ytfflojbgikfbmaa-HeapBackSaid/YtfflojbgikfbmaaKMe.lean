import Derived.Test.YtfflojbgikfbmaaKMd
import Derived.Test.YtfflojbgikfbmaaHpPkB
/-
  HeapBack: up to the two records.
-/
namespace Go.Proofs.Ytfflojbgikfbmaa.Hea
open Go.Proofs.YtfflojbgikfbmaaW.Ah
open Go.Proofs.Ytfflojbgikfbmaa.Sta (U Er eU wrap_nsub wrap_pred load_u)
set_option maxRecDepth 4000
set_option linter.unusedVariables false
set_option linter.unusedSimpArgs false
attribute [local simp] T.t3 T.t4 T.t5 T.t9 T.t26 T.t34 T.t35 T.t39 T.t40 T.t62 T.t63 T.t70 T.t93 T.t144 Op.maxDepth List.range List.range.loop
attribute [-simp] appendAV cellsOf cellOk partOk
attribute [local simp] cellsOf_sc cellOk_sc partOk_sc cellsOf_own cellOk_own partOk_own cellsOf_osl cellOk_osl partOk_osl cellsOf_sh cellOk_sh partOk_sh cellsOf_ssl cellOk_ssl partOk_ssl cellsOf_esl cellOk_esl partOk_esl cellsOf_fn cellOk_fn partOk_fn cellsOf_omap cellOk_omap partOk_omap cellsOf_agg partOk_agg cellsOf_slv cellOk_slv partOk_slv

noncomputable def body11 : Code := Try.f11.body.getD .skip

/-- What Put told: a word whose record stands there, or an error. -/
def Told1 (h : Hp) (a e : AV) (x : Int × Int × Int) (l : List Int) : Prop := (∃ w, a = U w ∧ e = Er 0 ∧ Kept h w x l) ∨ (∃ w, a = U w ∧ e = Er 19 ∧ ¬ (Can x.1 x.2.1 x.2.2 ∧ l.length = body x.1 x.2.2))
theorem Told1.laid {h : Hp} {a e : AV} {x : Int × Int × Int} {l : List Int} (k : Told1 h a e x l) (g : Good h) (ok : h.Ok) (y : Int × Int × Int) (hc : Can y.1 y.2.1 y.2.2) (l2 : List Int) (hl : l2.length = body y.1 y.2.2) (hr : size y.1 y.2.1 y.2.2 ≤ h.room) : Told1 (Hea.laid h y l2) a e x l := by
  rcases k with ⟨w, e1, e2, k⟩ | k
  · exact .inl ⟨w, e1, e2, k.laid g ok y hc l2 hl hr⟩
  · exact .inr k

structure Lies (t : Nat → AV) (H : Mem) (n p i : Nat) (c : Option Nat) (h : Hp) (x : Int × Int × Int) (l bs : List Int) (more : List (Int × Int × Int)) : Prop where
  t1 : t 1 = .ssl (encs eU l) l.length false
  t2 : t 2 = .ssl (encs eY bs) bs.length false
  t3 : t 3 = .ssl (encs eH more) more.length false
  t4 : t 4 = .own 0 0
  t13 : t 13 = .own p 0
  b0 : H 0 = some (.cells (eH x) 34)
  p0 : p ≠ 0
  i0 : i ≠ 0
  st : St H n p i c h
  g : Good h
  ta : Told1 h (t 15) (t 16) x l
  tb : Told1 h (t 17) (t 18) (1, 0, bs.length) (packL bs)

abbrev args11 (x : Int × Int × Int) (l bs : List Int) (more : List (Int × Int × Int)) : List AV := [hd x.1 x.2.1 x.2.2, .ssl (encs eU l) l.length false, .ssl (encs eY bs) bs.length false, .ssl (encs eH more) more.length false]

theorem rdV_hv {x : Int × Int × Int} (h : Can x.1 x.2.1 x.2.2) : rdV (hv x.1 x.2.1 x.2.2) = .tup [hd x.1 x.2.1 x.2.2, B true] := by
  unfold rdV; rw [rd_hv h]
theorem rdV_zero : rdV 0 = .tup [hd 0 0 0, B false] := by
  have : rd 0 = none := by decide
  unfold rdV; rw [this]
theorem packL_len (bs : List Int) (h : bs.length ≤ 64) : (packL bs).length = (bs.length + 7) / 8 := by
  unfold packL; rw [if_neg (by omega), ws_length]

theorem big1C (x y : Int × Int × Int) (l bs : List Int) (more : List (Int × Int × Int)) (C : Cont) (t : Nat → AV) (H : Mem) (n q : Nat) (t1 : t 1 = .ssl (encs eU l) l.length false) (t2 : t 2 = .ssl (encs eY bs) bs.length false) (t3 : t 3 = .ssl (encs eH more) more.length false) (t4 : t 4 = .own 0 0) (t10 : t 10 = B (decide (Can x.1 x.2.1 x.2.2))) (t11 : t 11 = .own q 0) (t12 : t 12 = B (decide (Can x.1 x.2.1 x.2.2))) (b0 : H 0 = some (.cells (eH x) 34)) (bq : H q = some (.cells (eH y) 34)) (hyx : Can x.1 x.2.1 x.2.2 → y = x) (hC : ∀ t H n, resOf T.T Try.f11.results.toList ⟨t, H, n⟩ = some (B true) → C .ret t H n) (hc : Can x.1 x.2.1 x.2.2) (g1 : 100 < l.length) : Stk Try.prog T.T 208 (codes ((seqs body11).drop 3)) t H n C := by
  have hres : ∀ (t : Nat → AV) (H : Mem) (n : Nat), t 8 = B true → C .ret t H n := fun t H n h8 => hC t H n (by simp [h8])
  obtain rfl := hyx hc
  have g1' : (100 : Int) < l.length := by omega
  refine Stk.cut (l' := (seqs body11).drop 5) [_, _] rfl fun J hJ => ?_
  simp only [codes, List.map_cons, List.map_nil, List.cons_append, List.nil_append]
  iterate 7 (try (refine evS_sound (f := 8) ?_; simp [t1, t2, t3, t4, t10, t11, t12, b0, bq, hc, partOf, g1, g1']))
  refine Stk.callF 99 awake rfl rfl rfl (by simp) rfl rfl ?_
  simp
  exact hres _ _ _ (by simp)
theorem big2C (x y : Int × Int × Int) (l bs : List Int) (more : List (Int × Int × Int)) (C : Cont) (t : Nat → AV) (H : Mem) (n q : Nat) (t1 : t 1 = .ssl (encs eU l) l.length false) (t2 : t 2 = .ssl (encs eY bs) bs.length false) (t3 : t 3 = .ssl (encs eH more) more.length false) (t4 : t 4 = .own 0 0) (t10 : t 10 = B (decide (Can x.1 x.2.1 x.2.2))) (t11 : t 11 = .own q 0) (t12 : t 12 = B (decide (Can x.1 x.2.1 x.2.2))) (b0 : H 0 = some (.cells (eH x) 34)) (bq : H q = some (.cells (eH y) 34)) (hyx : Can x.1 x.2.1 x.2.2 → y = x) (hC : ∀ t H n, resOf T.T Try.f11.results.toList ⟨t, H, n⟩ = some (B true) → C .ret t H n) (hc : Can x.1 x.2.1 x.2.2) (g1 : ¬ 100 < l.length) (g2 : 100 < bs.length) : Stk Try.prog T.T 208 (codes ((seqs body11).drop 3)) t H n C := by
  have hres : ∀ (t : Nat → AV) (H : Mem) (n : Nat), t 8 = B true → C .ret t H n := fun t H n h8 => hC t H n (by simp [h8])
  obtain rfl := hyx hc
  have g1' : ¬ (100 : Int) < l.length := by omega
  have g2' : (100 : Int) < bs.length := by omega
  refine Stk.cut (l' := (seqs body11).drop 5) [_, _] rfl fun J hJ => ?_
  simp only [codes, List.map_cons, List.map_nil, List.cons_append, List.nil_append]
  iterate 7 (try (refine evS_sound (f := 8) ?_; simp [t1, t2, t3, t4, t10, t11, t12, b0, bq, hc, partOf, g1, g1', g2, g2']))
  refine Stk.callF 99 awake rfl rfl rfl (by simp) rfl rfl ?_
  simp
  exact hres _ _ _ (by simp)
theorem big3C (x y : Int × Int × Int) (l bs : List Int) (more : List (Int × Int × Int)) (C : Cont) (t : Nat → AV) (H : Mem) (n q : Nat) (t1 : t 1 = .ssl (encs eU l) l.length false) (t2 : t 2 = .ssl (encs eY bs) bs.length false) (t3 : t 3 = .ssl (encs eH more) more.length false) (t4 : t 4 = .own 0 0) (t10 : t 10 = B (decide (Can x.1 x.2.1 x.2.2))) (t11 : t 11 = .own q 0) (t12 : t 12 = B (decide (Can x.1 x.2.1 x.2.2))) (b0 : H 0 = some (.cells (eH x) 34)) (bq : H q = some (.cells (eH y) 34)) (hyx : Can x.1 x.2.1 x.2.2 → y = x) (hC : ∀ t H n, resOf T.T Try.f11.results.toList ⟨t, H, n⟩ = some (B true) → C .ret t H n) (hc : Can x.1 x.2.1 x.2.2) (g1 : ¬ 100 < l.length) (g2 : ¬ 100 < bs.length) (g3 : 40 < more.length) : Stk Try.prog T.T 208 (codes ((seqs body11).drop 3)) t H n C := by
  have hres : ∀ (t : Nat → AV) (H : Mem) (n : Nat), t 8 = B true → C .ret t H n := fun t H n h8 => hC t H n (by simp [h8])
  obtain rfl := hyx hc
  have g1' : ¬ (100 : Int) < l.length := by omega
  have g2' : ¬ (100 : Int) < bs.length := by omega
  have g3' : (40 : Int) < more.length := by omega
  refine Stk.cut (l' := (seqs body11).drop 5) [_, _] rfl fun J hJ => ?_
  simp only [codes, List.map_cons, List.map_nil, List.cons_append, List.nil_append]
  iterate 7 (try (refine evS_sound (f := 8) ?_; simp [t1, t2, t3, t4, t10, t11, t12, b0, bq, hc, partOf, g1, g1', g2, g2', g3, g3']))
  refine Stk.callF 99 awake rfl rfl rfl (by simp) rfl rfl ?_
  simp
  exact hres _ _ _ (by simp)
theorem big1N (x y : Int × Int × Int) (l bs : List Int) (more : List (Int × Int × Int)) (C : Cont) (t : Nat → AV) (H : Mem) (n q : Nat) (t1 : t 1 = .ssl (encs eU l) l.length false) (t2 : t 2 = .ssl (encs eY bs) bs.length false) (t3 : t 3 = .ssl (encs eH more) more.length false) (t4 : t 4 = .own 0 0) (t10 : t 10 = B (decide (Can x.1 x.2.1 x.2.2))) (t11 : t 11 = .own q 0) (t12 : t 12 = B (decide (Can x.1 x.2.1 x.2.2))) (b0 : H 0 = some (.cells (eH x) 34)) (bq : H q = some (.cells (eH y) 34)) (hyx : Can x.1 x.2.1 x.2.2 → y = x) (hC : ∀ t H n, resOf T.T Try.f11.results.toList ⟨t, H, n⟩ = some (B true) → C .ret t H n) (hc : ¬ Can x.1 x.2.1 x.2.2) (g1 : 100 < l.length) : Stk Try.prog T.T 208 (codes ((seqs body11).drop 3)) t H n C := by
  have hres : ∀ (t : Nat → AV) (H : Mem) (n : Nat), t 8 = B true → C .ret t H n := fun t H n h8 => hC t H n (by simp [h8])
  clear hyx
  have g1' : (100 : Int) < l.length := by omega
  refine Stk.cut (l' := (seqs body11).drop 5) [_, _] rfl fun J hJ => ?_
  simp only [codes, List.map_cons, List.map_nil, List.cons_append, List.nil_append]
  iterate 7 (try (refine evS_sound (f := 8) ?_; simp [t1, t2, t3, t4, t10, t11, t12, b0, bq, hc, partOf, g1, g1']))
  refine Stk.callF 99 awake rfl rfl rfl (by simp) rfl rfl ?_
  simp
  exact hres _ _ _ (by simp)
theorem big2N (x y : Int × Int × Int) (l bs : List Int) (more : List (Int × Int × Int)) (C : Cont) (t : Nat → AV) (H : Mem) (n q : Nat) (t1 : t 1 = .ssl (encs eU l) l.length false) (t2 : t 2 = .ssl (encs eY bs) bs.length false) (t3 : t 3 = .ssl (encs eH more) more.length false) (t4 : t 4 = .own 0 0) (t10 : t 10 = B (decide (Can x.1 x.2.1 x.2.2))) (t11 : t 11 = .own q 0) (t12 : t 12 = B (decide (Can x.1 x.2.1 x.2.2))) (b0 : H 0 = some (.cells (eH x) 34)) (bq : H q = some (.cells (eH y) 34)) (hyx : Can x.1 x.2.1 x.2.2 → y = x) (hC : ∀ t H n, resOf T.T Try.f11.results.toList ⟨t, H, n⟩ = some (B true) → C .ret t H n) (hc : ¬ Can x.1 x.2.1 x.2.2) (g1 : ¬ 100 < l.length) (g2 : 100 < bs.length) : Stk Try.prog T.T 208 (codes ((seqs body11).drop 3)) t H n C := by
  have hres : ∀ (t : Nat → AV) (H : Mem) (n : Nat), t 8 = B true → C .ret t H n := fun t H n h8 => hC t H n (by simp [h8])
  clear hyx
  have g1' : ¬ (100 : Int) < l.length := by omega
  have g2' : (100 : Int) < bs.length := by omega
  refine Stk.cut (l' := (seqs body11).drop 5) [_, _] rfl fun J hJ => ?_
  simp only [codes, List.map_cons, List.map_nil, List.cons_append, List.nil_append]
  iterate 7 (try (refine evS_sound (f := 8) ?_; simp [t1, t2, t3, t4, t10, t11, t12, b0, bq, hc, partOf, g1, g1', g2, g2']))
  refine Stk.callF 99 awake rfl rfl rfl (by simp) rfl rfl ?_
  simp
  exact hres _ _ _ (by simp)
theorem big3N (x y : Int × Int × Int) (l bs : List Int) (more : List (Int × Int × Int)) (C : Cont) (t : Nat → AV) (H : Mem) (n q : Nat) (t1 : t 1 = .ssl (encs eU l) l.length false) (t2 : t 2 = .ssl (encs eY bs) bs.length false) (t3 : t 3 = .ssl (encs eH more) more.length false) (t4 : t 4 = .own 0 0) (t10 : t 10 = B (decide (Can x.1 x.2.1 x.2.2))) (t11 : t 11 = .own q 0) (t12 : t 12 = B (decide (Can x.1 x.2.1 x.2.2))) (b0 : H 0 = some (.cells (eH x) 34)) (bq : H q = some (.cells (eH y) 34)) (hyx : Can x.1 x.2.1 x.2.2 → y = x) (hC : ∀ t H n, resOf T.T Try.f11.results.toList ⟨t, H, n⟩ = some (B true) → C .ret t H n) (hc : ¬ Can x.1 x.2.1 x.2.2) (g1 : ¬ 100 < l.length) (g2 : ¬ 100 < bs.length) (g3 : 40 < more.length) : Stk Try.prog T.T 208 (codes ((seqs body11).drop 3)) t H n C := by
  have hres : ∀ (t : Nat → AV) (H : Mem) (n : Nat), t 8 = B true → C .ret t H n := fun t H n h8 => hC t H n (by simp [h8])
  clear hyx
  have g1' : ¬ (100 : Int) < l.length := by omega
  have g2' : ¬ (100 : Int) < bs.length := by omega
  have g3' : (40 : Int) < more.length := by omega
  refine Stk.cut (l' := (seqs body11).drop 5) [_, _] rfl fun J hJ => ?_
  simp only [codes, List.map_cons, List.map_nil, List.cons_append, List.nil_append]
  iterate 7 (try (refine evS_sound (f := 8) ?_; simp [t1, t2, t3, t4, t10, t11, t12, b0, bq, hc, partOf, g1, g1', g2, g2', g3, g3']))
  refine Stk.callF 99 awake rfl rfl rfl (by simp) rfl rfl ?_
  simp
  exact hres _ _ _ (by simp)
theorem smallC (x y : Int × Int × Int) (l bs : List Int) (more : List (Int × Int × Int)) (C : Cont) (t : Nat → AV) (H : Mem) (n q : Nat) (t1 : t 1 = .ssl (encs eU l) l.length false) (t2 : t 2 = .ssl (encs eY bs) bs.length false) (t3 : t 3 = .ssl (encs eH more) more.length false) (t4 : t 4 = .own 0 0) (t10 : t 10 = B (decide (Can x.1 x.2.1 x.2.2))) (t11 : t 11 = .own q 0) (t12 : t 12 = B (decide (Can x.1 x.2.1 x.2.2))) (b0 : H 0 = some (.cells (eH x) 34)) (bq : H q = some (.cells (eH y) 34)) (hyx : Can x.1 x.2.1 x.2.2 → y = x) (hc : Can x.1 x.2.1 x.2.2) (k1 : l.length ≤ 100) (k2 : bs.length ≤ 100) (k3 : more.length ≤ 40) (K : ∀ t' : Nat → AV, (∀ j, j < 38 → t' j = t j) → Stk Try.prog T.T 208 (codes ((seqs body11).drop 5)) t' H n C) : Stk Try.prog T.T 208 (codes ((seqs body11).drop 3)) t H n C := by
  obtain rfl := hyx hc
  have g1 : ¬ 100 < l.length := by omega
  have g2 : ¬ 100 < bs.length := by omega
  have g3 : ¬ 40 < more.length := by omega
  have g1' : ¬ (100 : Int) < l.length := by omega
  have g2' : ¬ (100 : Int) < bs.length := by omega
  have g3' : ¬ (40 : Int) < more.length := by omega
  refine Stk.cut (l' := (seqs body11).drop 5) [_, _] rfl fun J hJ => ?_
  simp only [codes, List.map_cons, List.map_nil, List.cons_append, List.nil_append]
  iterate 7 (try (refine evS_sound (f := 8) ?_; simp [t1, t2, t3, t4, t10, t11, t12, b0, bq, hc, partOf, g1, g2, g3, g1', g2', g3']))
  exact hJ _ _ _ (K _ fun j hj => by simp [upd, show ¬ j = 38 by omega, show ¬ j = 39 by omega, show ∀ m : Nat, 40 ≤ m → ¬ j = m from fun m hm => by omega])
theorem smallN (x y : Int × Int × Int) (l bs : List Int) (more : List (Int × Int × Int)) (C : Cont) (t : Nat → AV) (H : Mem) (n q : Nat) (t1 : t 1 = .ssl (encs eU l) l.length false) (t2 : t 2 = .ssl (encs eY bs) bs.length false) (t3 : t 3 = .ssl (encs eH more) more.length false) (t4 : t 4 = .own 0 0) (t10 : t 10 = B (decide (Can x.1 x.2.1 x.2.2))) (t11 : t 11 = .own q 0) (t12 : t 12 = B (decide (Can x.1 x.2.1 x.2.2))) (b0 : H 0 = some (.cells (eH x) 34)) (bq : H q = some (.cells (eH y) 34)) (hyx : Can x.1 x.2.1 x.2.2 → y = x) (hc : ¬ Can x.1 x.2.1 x.2.2) (k1 : l.length ≤ 100) (k2 : bs.length ≤ 100) (k3 : more.length ≤ 40) (K : ∀ t' : Nat → AV, (∀ j, j < 38 → t' j = t j) → Stk Try.prog T.T 208 (codes ((seqs body11).drop 5)) t' H n C) : Stk Try.prog T.T 208 (codes ((seqs body11).drop 3)) t H n C := by
  clear hyx
  have g1 : ¬ 100 < l.length := by omega
  have g2 : ¬ 100 < bs.length := by omega
  have g3 : ¬ 40 < more.length := by omega
  have g1' : ¬ (100 : Int) < l.length := by omega
  have g2' : ¬ (100 : Int) < bs.length := by omega
  have g3' : ¬ (40 : Int) < more.length := by omega
  refine Stk.cut (l' := (seqs body11).drop 5) [_, _] rfl fun J hJ => ?_
  simp only [codes, List.map_cons, List.map_nil, List.cons_append, List.nil_append]
  iterate 7 (try (refine evS_sound (f := 8) ?_; simp [t1, t2, t3, t4, t10, t11, t12, b0, bq, hc, partOf, g1, g2, g3, g1', g2', g3']))
  exact hJ _ _ _ (K _ fun j hj => by simp [upd, show ¬ j = 38 by omega, show ¬ j = 39 by omega, show ∀ m : Nat, 40 ≤ m → ¬ j = m from fun m hm => by omega])
end Go.Proofs.Ytfflojbgikfbmaa.Hea

/-
  HeapBack: the two records are made.
-/
namespace Go.Proofs.Ytfflojbgikfbmaa.Hea
open Go.Proofs.YtfflojbgikfbmaaW.Ah
open Go.Proofs.Ytfflojbgikfbmaa.Sta (U Er eU wrap_nsub wrap_pred load_u)
set_option maxRecDepth 4000
set_option linter.unusedVariables false
set_option linter.unusedSimpArgs false
attribute [local simp] T.t3 T.t4 T.t5 T.t9 T.t26 T.t34 T.t35 T.t39 T.t40 T.t62 T.t63 T.t70 T.t93 T.t144 Op.maxDepth List.range List.range.loop
attribute [-simp] appendAV cellsOf cellOk partOk
attribute [local simp] cellsOf_sc cellOk_sc partOk_sc cellsOf_own cellOk_own partOk_own cellsOf_osl cellOk_osl partOk_osl cellsOf_sh cellOk_sh partOk_sh cellsOf_ssl cellOk_ssl partOk_ssl cellsOf_esl cellOk_esl partOk_esl cellsOf_fn cellOk_fn partOk_fn cellsOf_omap cellOk_omap partOk_omap cellsOf_agg partOk_agg cellsOf_slv cellOk_slv partOk_slv


theorem packF (bs : List Int) : RunF Try.prog T.T 59 [.ssl (encs eY bs) bs.length false] (.ssl (encs eU (packL bs)) (packL bs).length false) := packL_ok bs

theorem awake11 : RunF Try.prog T.T 34 [] (B true) := awake

theorem toldX {H : Mem} {n p i : Nat} {cc : Option Nat} {h : Hp} (s : St H n p i cc h) (g : Good h) (x : Int × Int × Int) (l : List Int) :
    RunQ Try.prog T.T 37 [.own p 0, hd x.1 x.2.1 x.2.2, .ssl (encs eU l) l.length false] H n (fun r H' n' => ∃ w e h', r = .tup [U w, Er e] ∧ n ≤ n' ∧ (∀ j, j < n → j ≠ p → j ≠ i → H' j = H j) ∧ St H' n' p i cc h' ∧ Good h' ∧ ((e = 0 ∧ Can x.1 x.2.1 x.2.2 ∧ l.length = body x.1 x.2.2 ∧ size x.1 x.2.1 x.2.2 ≤ h.room ∧ h' = laid h x l ∧ Kept h' w x l) ∨ (h' = h ∧ ¬ (Can x.1 x.2.1 x.2.2 ∧ l.length = body x.1 x.2.2 ∧ size x.1 x.2.1 x.2.2 ≤ h.room) ∧ (e = 19 ∨ e = 21) ∧ (e = 21 → (Can x.1 x.2.1 x.2.2 ∧ l.length = body x.1 x.2.2))))) := by
  obtain ⟨r, H', n', h1, h2⟩ := putX s x.1 x.2.1 x.2.2 l false
  refine ⟨r, H', n', h1, ?_⟩
  by_cases hc : Can x.1 x.2.1 x.2.2 ∧ l.length = body x.1 x.2.2 ∧ size x.1 x.2.1 x.2.2 ≤ h.room
  · rw [if_pos hc] at h2
    obtain ⟨rfl, st⟩ := h2
    exact ⟨_, 0, laid h x l, rfl, st.le, st.keep, st.st, g.laid s.ok x hc.1 l hc.2.1 hc.2.2, .inl ⟨rfl, hc.1, hc.2.1, hc.2.2, rfl, Kept.new g s.ok x hc.1 l hc.2.1 hc.2.2⟩⟩
  · rw [if_neg hc] at h2
    obtain ⟨rfl, cm⟩ := h2
    refine ⟨_, _, h, rfl, cm.1, fun j hj _ _ => cm.2 j hj, s.far cm.1 cm.2, g, .inr ⟨rfl, hc, ?_, ?_⟩⟩
    · split
      · exact .inr rfl
      · exact .inl rfl
    · split
      · rename_i h; exact fun _ => h
      · intro h; cases h

theorem good0 : Good ⟨List.replicate (2 * 200 + 1) 0, 200, false, 1, false, 0⟩ := ⟨rfl, rfl, rfl, rfl, rfl, .nil _⟩

theorem putsB (x : Int × Int × Int) (l bs : List Int) (more : List (Int × Int × Int)) (C : Cont) (t : Nat → AV) (H : Mem) (n : Nat) (hn0 : 0 < n) (t1 : t 1 = .ssl (encs eU l) l.length false) (t2 : t 2 = .ssl (encs eY bs) bs.length false) (t3 : t 3 = .ssl (encs eH more) more.length false) (t4 : t 4 = .own 0 0) (t10 : t 10 = B (decide (Can x.1 x.2.1 x.2.2))) (b0 : H 0 = some (.cells (eH x) 34))
    (K : ∀ t H n p i c h, Lies t H n p i c h x l bs more → t 10 = B (decide (Can x.1 x.2.1 x.2.2)) → Stk Try.prog T.T 208 (codes ((seqs body11).drop 10)) t H n C) : Stk Try.prog T.T 208 (codes ((seqs body11).drop 5)) t H n C := by
  refine Stk.cut (l' := (seqs body11).drop 10) [_, _, _, _, _] rfl fun J hJ => ?_
  simp only [codes, List.map_cons, List.map_nil, List.cons_append, List.nil_append]
  refine evS_sound (f := 8) ?_
  simp
  refine Stk.callS 8 (new _ _ 200) rfl rfl rfl (by simp) ?_
  intro v H1 n1 hz
  rw [if_pos (by decide)] at hz
  obtain ⟨p, i, rfl, hnp, hni, hc1, st1⟩ := hz
  simp
  have b1 : H1 0 = some (.cells (eH x) 34) := by rw [hc1.2 0 hn0]; exact b0
  iterate 2 (try (refine evS_sound (f := 8) ?_; simp [t1, t2, t3, t4, b1, partOf]))
  have st1' : St H1 n1 p i (some (2 * 200 + 1)) ⟨List.replicate (2 * 200 + 1) 0, 200, false, 1, false, 0⟩ := st1
  refine Stk.callS 8 (toldX st1' good0 x l) rfl rfl rfl (by simp) ?_
  rintro v H2 n2 ⟨w1, e1, h1, rfl, le1, kp1, st2, g2, or1⟩
  simp [t1, t2, t3, t4]
  iterate 1 (try (refine evS_sound (f := 8) ?_; simp [t1, t2, t3, t4, partOf]))
  refine Stk.callF 8 (packF bs) rfl rfl rfl (by simp [t2]) (by simp [freeL, free, freeL_encs (e := eY) (fun _ => rfl)]) (by simp [free, freeL_encs (e := eU) (fun _ => rfl)]) ?_
  simp
  refine Stk.callS 8 (toldX st2 g2 (1, 0, bs.length) (packL bs)) rfl rfl rfl (by simp) ?_
  rintro v H3 n3 ⟨w2, e2, h2, rfl, le2, kp2, st3, g3, or2⟩
  simp
  iterate 1 (try (refine evS_sound (f := 8) ?_; simp))
  have room0 : (⟨List.replicate (2 * 200 + 1) 0, 200, false, 1, false, 0⟩ : Hp).room = 200 := rfl
  have sz10 : ∀ z : Int × Int × Int, Can z.1 z.2.1 z.2.2 → size z.1 z.2.1 z.2.2 ≤ 10 := fun z hz => by rw [size_can hz]; have := body_le hz; omega
  have room1 : 10 ≤ h1.room := by
    obtain ⟨q1, q2, q3, q4⟩ := g2.to st2.ok
    rcases or1 with ⟨_, hc, _, _, e, _⟩ | ⟨e, _⟩
    · have := sz10 x hc
      have hx : h1.next = 1 + size x.1 x.2.1 x.2.2 := by rw [e]; rfl
      omega
    · have hx : h1.next = 1 := by rw [e]
      omega
  have ta1 : Told1 h1 (U w1) (Er e1) x l := by
    rcases or1 with ⟨rfl, hc, hb, hr, rfl, k⟩ | ⟨rfl, hn, he, he2⟩
    · exact .inl ⟨w1, rfl, rfl, k⟩
    · have hne : ¬ (Can x.1 x.2.1 x.2.2 ∧ l.length = body x.1 x.2.2) := fun h => hn ⟨h.1, h.2, by have := sz10 x h.1; rw [room0]; omega⟩
      rcases he with rfl | rfl
      · exact .inr ⟨w1, rfl, rfl, hne⟩
      · exact absurd (he2 rfl) hne
  have ta2 : Told1 h2 (U w1) (Er e1) x l := by
    rcases or2 with ⟨_, hc, hb, hr, rfl, k⟩ | ⟨rfl, _⟩
    · exact ta1.laid g2 st2.ok _ hc _ hb hr
    · exact ta1
  have tb2 : Told1 h2 (U w2) (Er e2) (1, 0, bs.length) (packL bs) := by
    rcases or2 with ⟨rfl, hc, hb, hr, rfl, k⟩ | ⟨rfl, hn, he, he2⟩
    · exact .inl ⟨w2, rfl, rfl, k⟩
    · have hne : ¬ (Can 1 0 bs.length ∧ (packL bs).length = body 1 bs.length) := fun h => hn ⟨h.1, h.2, by have := sz10 (1, 0, bs.length) h.1; omega⟩
      rcases he with rfl | rfl
      · exact .inr ⟨w2, rfl, rfl, hne⟩
      · exact absurd (he2 rfl) hne
  have bz : H3 0 = some (.cells (eH x) 34) := by rw [kp2 0 (by have := hc1.1; omega) (by omega) (by omega), kp1 0 (by have := hc1.1; omega) (by omega) (by omega)]; exact b1
  exact hJ _ _ _ (K _ _ _ p i _ h2 ⟨by simp [t1], by simp [t2], by simp [t3], by simp [t4], by simp, bz, by omega, by omega, st3, g3, by simpa using ta2, by simpa using tb2⟩ (by simp [t10]))

theorem checkB (x : Int × Int × Int) (l bs : List Int) (more : List (Int × Int × Int)) (C : Cont) (t : Nat → AV) (H : Mem) (n p i : Nat) (c : Option Nat) (h : Hp) (s : Lies t H n p i c h x l bs more) (t10 : t 10 = B (decide (Can x.1 x.2.1 x.2.2)))
    (K : ∀ t H n p i c h, Lies t H n p i c h x l bs more → Stk Try.prog T.T 208 (codes ((seqs body11).drop 12)) t H n C) : Stk Try.prog T.T 208 (codes ((seqs body11).drop 10)) t H n C := by
  obtain ⟨t1, t2, t3, t4, t13, b0, p0, i0, st, g, ta, tb⟩ := s
  have hb64 : (∃ w, t 17 = U w ∧ t 18 = Er 0 ∧ Kept h w (1, 0, bs.length) (packL bs)) → bs.length ≤ 64 := by
    rintro ⟨w, _, _, a, _, _, hc, _⟩
    unfold Can at hc
    simp at hc
    omega
  have hb65 : ¬ (Can 1 0 bs.length ∧ (packL bs).length = body 1 bs.length) → 64 < bs.length := fun hn => by
    rcases Nat.lt_or_ge 64 bs.length with h | h
    · exact h
    · exact absurd ⟨.inr ⟨rfl, rfl, by omega, by omega⟩, by rw [packL_len bs h]; simp [body]⟩ hn
  refine Stk.cut (l' := (seqs body11).drop 12) [_, _] rfl fun J hJ => ?_
  simp only [codes, List.map_cons, List.map_nil, List.cons_append, List.nil_append]
  have fin : ∀ t' : Nat → AV, (∀ j, j < 100 → t' j = t j) → J 0 t' H n := fun t' ht => hJ _ _ _ (K _ _ _ p i c h ⟨by rw [ht _ (by decide)]; exact t1, by rw [ht _ (by decide)]; exact t2, by rw [ht _ (by decide)]; exact t3, by rw [ht _ (by decide)]; exact t4, by rw [ht _ (by decide)]; exact t13, b0, p0, i0, st, g, by rw [ht _ (by decide), ht _ (by decide)]; exact ta, by rw [ht _ (by decide), ht _ (by decide)]; exact tb⟩)
  rcases ta with ⟨w, ta1, ta2, ka⟩ | ⟨w, ta1, ta2, ka⟩
  · have hc : Can x.1 x.2.1 x.2.2 := by obtain ⟨_, _, _, hc, _⟩ := ka; exact hc
    have hlb : l.length = body x.1 x.2.2 := by obtain ⟨_, _, _, _, hb, _⟩ := ka; exact hb
    obtain ⟨S, hS⟩ : ∃ S, S = size x.1 x.2.1 x.2.2 := ⟨_, rfl⟩
    have hSl : S = 2 + l.length := by rw [hS, size_can hc, hlb]
    have hbl := body_le hc
    have hw : IntKind.i64.wrap (2 + (l.length : Int)) = (S : Int) := by rw [wrap64_id (by omega) (by omega)]; omega
    have hsf := sizeF x.1 x.2.1 x.2.2
    rw [← hS] at hsf
    rw [decide_eq_true hc] at t10
    iterate 1 (try (refine evS_sound (f := 8) ?_; simp [t1, t2, t4, t10, ta2, b0, partOf]))
    refine Stk.callF 8 hsf rfl rfl rfl (by simp) rfl rfl ?_
    rcases tb with ⟨w2, tb1, tb2, kb⟩ | ⟨w2, tb1, tb2, kb⟩
    · have h64 := hb64 ⟨w2, tb1, tb2, kb⟩
      have h64' : (bs.length : Int) ≤ 64 := by omega
      simp [t1, t2, t10, tb2, hw, h64, h64']
      iterate 5 (try (refine evS_sound (f := 8) ?_; simp [t1, t2, t10, tb2, hw, h64, h64']))
      exact fin _ fun j hj => by simp [upd, show ∀ m : Nat, 100 ≤ m → ¬ j = m from fun m hm => by omega]
    · have h64 := hb65 kb
      have h64' : ¬ (bs.length : Int) ≤ 64 := by omega
      have h64n : ¬ bs.length ≤ 64 := by omega
      simp [t1, t2, t10, tb2, hw, h64n, h64']
      iterate 5 (try (refine evS_sound (f := 8) ?_; simp [t1, t2, t10, tb2, hw, h64n, h64']))
      exact fin _ fun j hj => by simp [upd, show ∀ m : Nat, 100 ≤ m → ¬ j = m from fun m hm => by omega]
  · rcases tb with ⟨w2, tb1, tb2, kb⟩ | ⟨w2, tb1, tb2, kb⟩
    · have h64 := hb64 ⟨w2, tb1, tb2, kb⟩
      have h64' : (bs.length : Int) ≤ 64 := by omega
      iterate 5 (try (refine evS_sound (f := 8) ?_; simp [t1, t2, t10, ta2, tb2, h64, h64']))
      exact fin _ fun j hj => by simp [upd, show ∀ m : Nat, 100 ≤ m → ¬ j = m from fun m hm => by omega]
    · have h64 := hb65 kb
      have h64' : ¬ (bs.length : Int) ≤ 64 := by omega
      have h64n : ¬ bs.length ≤ 64 := by omega
      iterate 5 (try (refine evS_sound (f := 8) ?_; simp [t1, t2, t10, ta2, tb2, h64n, h64']))
      exact fin _ fun j hj => by simp [upd, show ∀ m : Nat, 100 ≤ m → ¬ j = m from fun m hm => by omega]
end Go.Proofs.Ytfflojbgikfbmaa.Hea

/-
  HeapBack: the records behind.
-/
namespace Go.Proofs.Ytfflojbgikfbmaa.Hea
open Go.Proofs.YtfflojbgikfbmaaW.Ah
open Go.Proofs.Ytfflojbgikfbmaa.Sta (U Er eU wrap_nsub wrap_pred load_u)
set_option maxRecDepth 4000
set_option linter.unusedVariables false
set_option linter.unusedSimpArgs false
attribute [local simp] T.t3 T.t4 T.t5 T.t9 T.t26 T.t34 T.t35 T.t39 T.t40 T.t62 T.t63 T.t70 T.t93 T.t144 Op.maxDepth List.range List.range.loop
attribute [-simp] appendAV cellsOf cellOk partOk
attribute [local simp] cellsOf_sc cellOk_sc partOk_sc cellsOf_own cellOk_own partOk_own cellsOf_osl cellOk_osl partOk_osl cellsOf_sh cellOk_sh partOk_sh cellsOf_ssl cellOk_ssl partOk_ssl cellsOf_esl cellOk_esl partOk_esl cellsOf_fn cellOk_fn partOk_fn cellsOf_omap cellOk_omap partOk_omap cellsOf_agg partOk_agg cellsOf_slv cellOk_slv partOk_slv



theorem toldO {H : Mem} {n p i : Nat} {cc : Option Nat} {h : Hp} (s : St H n p i cc h) (g : Good h) (x : Int × Int × Int) {j : Nat} {cj : Option Nat} (l : List Int) (hj : H j = some (.cells (encs eU l) 40)) (hjn : j < n) (hji : j ≠ i) (hjp : j ≠ p) :
    RunQ Try.prog T.T 37 [.own p 0, hd x.1 x.2.1 x.2.2, .osl j 0 l.length cj] H n (fun r H' n' => ∃ h', n ≤ n' ∧ (∀ j, j < n → j ≠ p → j ≠ i → H' j = H j) ∧ St H' n' p i cc h' ∧ Good h' ∧ ((Can x.1 x.2.1 x.2.2 ∧ l.length = body x.1 x.2.2 ∧ size x.1 x.2.1 x.2.2 ≤ h.room ∧ h' = laid h x l) ∨ h' = h)) := by
  obtain ⟨r, H', n', h1, h2⟩ := put s x.1 x.2.1 x.2.2 (j := j) (cj := cj) (l := l) (zs := []) (by rw [List.append_nil]; exact hj) hjn hji hjp
  refine ⟨r, H', n', h1, ?_⟩
  by_cases hc : Can x.1 x.2.1 x.2.2 ∧ l.length = body x.1 x.2.2 ∧ size x.1 x.2.1 x.2.2 ≤ h.room
  · rw [if_pos hc] at h2
    obtain ⟨rfl, st⟩ := h2
    exact ⟨laid h x l, st.le, st.keep, st.st, g.laid s.ok x hc.1 l hc.2.1 hc.2.2, .inl ⟨hc.1, hc.2.1, hc.2.2, rfl⟩⟩
  · rw [if_neg hc] at h2
    obtain ⟨rfl, cm⟩ := h2
    exact ⟨h, cm.1, fun j hj _ _ => cm.2 j hj, s.far cm.1 cm.2, g, .inr rfl⟩

theorem Lies.far {t t' : Nat → AV} {H H' : Mem} {n n' p i : Nat} {c : Option Nat} {h h' : Hp} {x : Int × Int × Int} {l bs : List Int} {more : List (Int × Int × Int)} (s : Lies t H n p i c h x l bs more) (ht : ∀ j, j < 19 → t' j = t j) (h0 : H' 0 = H 0) (st : St H' n' p i c h') (g : Good h') (hh : (∃ (y : Int × Int × Int) (l2 : List Int), Can y.1 y.2.1 y.2.2 ∧ l2.length = body y.1 y.2.2 ∧ size y.1 y.2.1 y.2.2 ≤ h.room ∧ h' = laid h y l2) ∨ h' = h) : Lies t' H' n' p i c h' x l bs more := by
  have e : ∀ j, j < 19 → t' j = t j := ht
  refine ⟨by rw [e _ (by decide)]; exact s.t1, by rw [e _ (by decide)]; exact s.t2, by rw [e _ (by decide)]; exact s.t3, by rw [e _ (by decide)]; exact s.t4, by rw [e _ (by decide)]; exact s.t13, by rw [h0]; exact s.b0, s.p0, s.i0, st, g, ?_, ?_⟩
  · rw [e _ (by decide), e _ (by decide)]
    rcases hh with ⟨y, l2, a, b, c, rfl⟩ | rfl
    · exact s.ta.laid s.g s.st.ok y a l2 b c
    · exact s.ta
  · rw [e _ (by decide), e _ (by decide)]
    rcases hh with ⟨y, l2, a, b, c, rfl⟩ | rfl
    · exact s.tb.laid s.g s.st.ok y a l2 b c
    · exact s.tb

theorem moreB (x : Int × Int × Int) (l bs : List Int) (more : List (Int × Int × Int)) (hx : more.length ≤ 40) (C : Cont) (t : Nat → AV) (H : Mem) (n p i : Nat) (c : Option Nat) (h : Hp) (s : Lies t H n p i c h x l bs more)
    (K : ∀ t H n p i c h, Lies t H n p i c h x l bs more → Stk Try.prog T.T 208 (codes ((seqs body11).drop 14)) t H n C) : Stk Try.prog T.T 208 (codes ((seqs body11).drop 12)) t H n C := by
  refine Stk.cut (l' := (seqs body11).drop 14) [_, _] rfl fun J hJ => ?_
  have t3 := s.t3
  refine evS_sound (f := 99) ?_
  simp [codes, t3]
  refine Stk.loop 99 (fun μ t H2 n2 => ∃ (q : Nat) (h : Hp), q ≤ more.length ∧ μ = more.length - q ∧ t 124 = .ssl (encs eH more) more.length false ∧ t 125 = I more.length ∧ t 126 = I q ∧ Lies t H2 n2 p i c h x l bs more) more.length ?_ ?_
  · exact ⟨0, h, Nat.zero_le _, rfl, by simp [t3], by simp, by simp, s.far (fun j hj => by simp [upd, show ∀ m : Nat, 100 ≤ m → ¬ j = m from fun m hm => by omega]) rfl s.st s.g (.inr rfl)⟩
  clear s t3
  rintro J2 hJ2 μ t H2 n2 ⟨q, h, hq, rfl, t124, t125, t126, s⟩
  simp [t124, t125, t126]
  refine ⟨fun hlt => ?_, fun hge => ?_⟩
  · have hlt : q < more.length := by simpa using hlt
    have hld : partOf T.T 34 (List.drop (q * 3) (encs eH more)) 0 = some (.agg (eH more[q])) := part_agg (e := eH) (z := 3) T.t34 rfl rfl more q hlt
    obtain ⟨y, hy⟩ : ∃ x, x = more[q] := ⟨_, rfl⟩
    rw [← hy] at hld
    have t13 := s.t13
    simp [t124, t125, t126, hlt, hld]
    refine Stk.regionD 99 [.rd [], .rd [n2], .rd [n2], .rd [], .rd [], .rd [], .mem [] (n2 + 1), .mem [p, i] (n2 + 1)] none (by kernel_rfl) (by rfl) rfl (by simp [below]) rfl ?_
    have wq := wrap_succ q (by omega)
    obtain ⟨sz, hsz⟩ : ∃ sz, sz = size y.1 y.2.1 y.2.2 := ⟨_, rfl⟩
    have hsf := sizeF y.1 y.2.1 y.2.2
    rw [← hsz] at hsf
    obtain ⟨lb, hlb⟩ : ∃ lb, lb = sz - 2 := ⟨_, rfl⟩
    have hsz8 : sz ≤ 10 := by
      rw [hsz]; unfold size; split
      · rename_i hc; have := body_le hc; omega
      · omega
    have hmax : IntKind.i64.wrap ((if (sz : Int) < 2 then 2 else (sz : Int)) - 2) = (lb : Int) := by
      split
      · rw [wrap64_id (by omega) (by omega)]; omega
      · rw [wrap64_id (by omega) (by omega)]; omega
    have hr1 : (lb : Int) * 8 ≤ (roomMax : Nat) := by unfold roomMax; omega
    have hr2 : lb ≤ roomMax := by unfold roomMax; omega
    obtain ⟨M0, hM0⟩ : ∃ M0 : Mem, M0 = upd (upd H2 n2 (some (.cells [.sc (.int .i64 0), .sc (.int .i64 0), .sc (.int .i64 0)] 34))) n2 (some (.cells (eH y) 34)) := ⟨_, rfl⟩
    obtain ⟨M, hM⟩ : ∃ M : Mem, M = upd M0 (n2 + 1) (some (.cells (List.replicate lb (.sc (.int .u64 0))) 40)) := ⟨_, rfl⟩
    have hMj : ∀ j, j < n2 → M j = H2 j := fun j hj => by rw [hM, upd_ne _ _ (by omega), hM0, upd_ne _ _ (by omega), upd_ne _ _ (by omega)]
    have stM := s.st.far (n' := n2 + 2) (by omega) hMj
    have hlp := s.st.lp
    have hli := s.st.li
    have hput := toldO stM s.g y (j := n2 + 1) (cj := some lb) (List.replicate lb 0) (by rw [hM, upd_same, encs_rep]) (by omega) (by omega) (by omega)
    simp only [List.length_replicate] at hput
    rw [← hM0]
    have hM0n : M0 n2 = some (.cells (eH y) 34) := by rw [hM0, upd_same]
    simp [hM0n, partOf, t13]
    refine Stk.callFD 9 hsf rfl rfl rfl rfl rfl (by simp) rfl rfl ?_
    simp [hmax, hr1, hr2]
    rw [← hM]
    refine ⟨fun j hj e => absurd e (by omega), ?_⟩
    refine Stk.callSD 6 rfl ?_ hput rfl rfl rfl rfl (by simp [t13]) ?_
    · rintro v H' n' ⟨h', le, kp, _⟩ j hj hj'
      simp at hj'
      exact kp j (by omega) hj'.1 hj'.2
    rintro v H3 n3 ⟨h', le, kp, st3, g3, hor⟩
    simp [t126, wq]
    iterate 2 (try (refine evS_sound (f := 8) ?_; simp [t126, wq]))
    have hp0 := s.p0
    have hi0 := s.i0
    refine ⟨more.length - (q + 1), by omega, hJ2 _ _ _ _ ⟨q + 1, h', hlt, rfl, by simp [t124], by simp [t125], by simp, s.far (fun j hj => by simp [upd, show ¬ j = 20 by omega, show ∀ m : Nat, 100 ≤ m → ¬ j = m from fun m hm => by omega]) ?_ st3 g3 ?_⟩⟩
    · rw [kp 0 (by omega) (by omega) (by omega), hMj 0 (by omega)]
    · rcases hor with ⟨a, b, c, d⟩ | d
      · exact .inl ⟨y, List.replicate lb 0, a, by rw [List.length_replicate]; exact b, c, d⟩
      · exact .inr d
  · have : q = more.length := by omega
    subst this
    simp
    exact hJ _ _ _ (K _ _ _ p i c h (s.far (fun j hj => by simp [upd, show ∀ m : Nat, 100 ≤ m → ¬ j = m from fun m hm => by omega]) rfl s.st s.g (.inr rfl)))
end Go.Proofs.Ytfflojbgikfbmaa.Hea
