/-
  The functions come to them.
-/
import Derived.Test.YtfbkgjmpadknfaaGM
import Derived.Test.YtfbkgjmpadknfaaGW11
import Derived.Test.YtfbkgjmpadknfaaGW14
namespace Go.Proofs.Ytfbkgjmpadknfaa.M
open Go.Proofs.YtfbkgjmpadknfaaW.Ah Go.Proofs.Ytfbkgjmpadknfaa
set_option linter.unusedVariables false
set_option linter.unusedSimpArgs false
set_option maxRecDepth 8000
attribute [local simp] T.t2 T.t3 T.t4 T.t5 T.t37 T.t95 T.t97 List.range List.range.loop
attribute [-simp] appendAV fillAV
theorem ok_R13_Split (F : Nat) (a0 : (List api_Term)) (a1 : Int) (r : (Int × (List api_Term) × Bool)) (h : R13_Split F a0 a1 = some r) : RunF Try.prog T.T 37 [.ssl (encs c97 a0) a0.length false, .sc (.int .i64 a1)] (.tup [.sc (.int .i64 r.1), .ssl (encs c97 r.2.1) r.2.1.length false, .sc (.bool r.2.2)]) := by
  rw [R13_Split] at h
  refine RunF.z Try.func37 rfl rfl rfl rfl rfl (fun C hr => ?_)
  refine Stk.gen (fun t H n => t 0 = .ssl (encs c97 a0) a0.length false ∧ t 1 = .sc (.int .i64 a1)) ⟨by simp, by simp⟩ ?_
  rintro t H n ⟨f0, f1⟩
  refine Stk.sq ?_
  refine Stk.rg ?_
  refine Stk.run 2 (fun t H n => t 0 = .ssl (encs c97 a0) a0.length false ∧ t 1 = .sc (.int .i64 a1)) (fun J hJ => ?_) ?_
  · simp [-splice, f0, f1]
    exact hJ _ _ _ ⟨by simp [f0], by simp [f1]⟩
  clear f0 f1
  rintro t H n ⟨f0, f1⟩
  refine Stk.run 1 (fun t H n => t 0 = .ssl (encs c97 a0) a0.length false ∧ t 1 = .sc (.int .i64 a1)) (fun J hJ => ?_) ?_
  · simp [-splice, f0, f1]
    exact hJ _ _ _ ⟨by simp [f0], by simp [f1]⟩
  clear f0 f1
  rintro t H n ⟨f0, f1⟩
  refine Stk.on ?_
  refine Stk.sq ?_
  refine Stk.rg ?_
  refine Stk.run 1 (fun t H n => t 0 = .ssl (encs c97 a0) a0.length false ∧ t 1 = .sc (.int .i64 a1) ∧ t 13 = .sc (.int .i64 a1)) (fun J hJ => ?_) ?_
  · simp [-splice, f0, f1]
    exact hJ _ _ _ ⟨by simp [f0], by simp [f1], by simp [-splice, f0, f1]⟩
  clear f0 f1
  rintro t H n ⟨f0, f1, f13⟩
  obtain ⟨x1, hx1, h⟩ := bnd h
  refine Stk.cv (g := 34) (args := [.sc (.int .i64 a1)]) (args' := [.sc (.int .i64 a1)]) (v := .tup [.ssl (encs c97 x1.1) x1.1.length false, .sc (.int .i64 x1.2)]) [] (ok_R13_Var F _ _ hx1) (by simp [f0, f1, f13]) rfl rfl (by simp [f0, f1, f13]) (.cons (.free (rfl)) (.nil)) (.inl ⟨rfl, by simp [free, freeL, freeL_encs fr97]⟩) (fun t' ht' => ?_)
  refine Stk.gen (fun t H n => t 0 = .ssl (encs c97 a0) a0.length false ∧ t 1 = .sc (.int .i64 a1) ∧ t 14 = .tup [.ssl (encs c97 x1.1) x1.1.length false, .sc (.int .i64 x1.2)]) ⟨by simp [ht', f0], by simp [ht', f1], by simp [ht']⟩ ?_
  clear f0 f1 f13 ht' t'
  rintro t H n ⟨f0, f1, f14⟩
  refine Stk.run 5 (fun t H n => t 0 = .ssl (encs c97 a0) a0.length false ∧ t 1 = .sc (.int .i64 a1) ∧ t 7 = .ssl (encs c97 x1.1) x1.1.length false) (fun J hJ => ?_) ?_
  · simp [-splice, f0, f1, f14]
    exact hJ _ _ _ ⟨by simp [f0], by simp [f1], by simp [-splice, f0, f1, f14]⟩
  clear f0 f1 f14
  rintro t H n ⟨f0, f1, f7⟩
  refine Stk.on ?_
  refine Stk.sq ?_
  refine Stk.rg ?_
  refine Stk.run 1 (fun t H n => t 0 = .ssl (encs c97 a0) a0.length false ∧ t 1 = .sc (.int .i64 a1) ∧ t 7 = .ssl (encs c97 x1.1) x1.1.length false ∧ t 9 = .sc (.slice none 0 0)) (fun J hJ => ?_) ?_
  · simp [-splice, f0, f1, f7]
    exact hJ _ _ _ ⟨by simp [f0], by simp [f1], by simp [f7], by simp [-splice, f0, f1, f7]⟩
  clear f0 f1 f7
  rintro t H n ⟨f0, f1, f7, f9⟩
  obtain ⟨o2, ho2⟩ : ∃ o : Option Nat, o = none := ⟨none, rfl⟩
  obtain ⟨co2, hco2⟩ : ∃ c : Option Nat, c = none := ⟨none, rfl⟩
  replace f9 : t 9 = slc o2 ([] : List api_Term).length co2 := by rw [ho2]; exact f9
  have b_o2 : OwnC H 97 13 c97 o2 co2 ([] : List api_Term) := by rw [ho2]; exact rfl
  have l_o2 : ∀ i, o2 = some i → i < n := by rw [ho2]; intro i e; cases e
  refine Stk.on ?_
  refine Stk.sq ?_
  refine Stk.rg ?_
  refine Stk.run 1 (fun t H n => t 0 = .ssl (encs c97 a0) a0.length false ∧ t 1 = .sc (.int .i64 a1) ∧ t 7 = .ssl (encs c97 x1.1) x1.1.length false ∧ t 9 = slc o2 ([] : List api_Term).length co2 ∧ t 10 = .sc (.int .i64 0) ∧ OwnC H 97 13 c97 o2 co2 ([] : List api_Term) ∧ (∀ i, o2 = some i → i < n)) (fun J hJ => ?_) ?_
  · simp [-splice, f0, f1, f7, f9]
    exact hJ _ _ _ ⟨by simp [f0], by simp [f1], by simp [f7], by simp [f9], by simp [-splice, f0, f1, f7, f9], b_o2, l_o2⟩
  clear f0 f1 f7 f9 b_o2 l_o2
  rintro t H n ⟨f0, f1, f7, f9, f10, b_o2, l_o2⟩
  refine Stk.on ?_
  refine Stk.sq ?_
  refine Stk.sq ?_
  refine Stk.rg ?_
  refine Stk.run 1 (fun t H n => t 0 = .ssl (encs c97 a0) a0.length false ∧ t 1 = .sc (.int .i64 a1) ∧ t 7 = .ssl (encs c97 x1.1) x1.1.length false ∧ t 9 = slc o2 ([] : List api_Term).length co2 ∧ t 10 = .sc (.int .i64 0) ∧ t 11 = .sc (.int .i64 0) ∧ OwnC H 97 13 c97 o2 co2 ([] : List api_Term) ∧ (∀ i, o2 = some i → i < n)) (fun J hJ => ?_) ?_
  · simp [-splice, f0, f1, f7, f9, f10]
    exact hJ _ _ _ ⟨by simp [f0], by simp [f1], by simp [f7], by simp [f9], by simp [f10], by simp [-splice, f0, f1, f7, f9, f10], b_o2, l_o2⟩
  clear f0 f1 f7 f9 f10 b_o2 l_o2
  rintro t H n ⟨f0, f1, f7, f9, f10, f11, b_o2, l_o2⟩
  refine Stk.on ?_
  obtain ⟨K1, hK1, h⟩ := jnd h
  refine Stk.jn (fun t H n => ∃ o3 : Option Nat, ∃ co3 : Option Nat, ∃ v4 : List api_Term, ∃ v5 : Int, K1 v4 v5 = some r ∧ t 9 = slc o3 v4.length co3 ∧ t 10 = .sc (.int .i64 v5) ∧ OwnC H 97 13 c97 o3 co3 v4 ∧ (∀ i, o3 = some i → i < n)) trivial (fun J1 hJ1 => ?_) ?_
  · skip
    refine Stk.bk ?_
    refine Stk.lo (fun μ t H n => ∃ o6 : Option Nat, ∃ co6 : Option Nat, ∃ v7 : List api_Term, ∃ v8 : Int, ∃ v9 : Int, R13_Split_L0 F a0 a1 x1 K1 μ v7 v8 v9 = some r ∧ t 0 = .ssl (encs c97 a0) a0.length false ∧ t 1 = .sc (.int .i64 a1) ∧ t 7 = .ssl (encs c97 x1.1) x1.1.length false ∧ t 9 = slc o6 v7.length co6 ∧ t 10 = .sc (.int .i64 v8) ∧ t 11 = .sc (.int .i64 v9) ∧ OwnC H 97 13 c97 o6 co6 v7 ∧ (∀ i, o6 = some i → i < n)) F ⟨o2, co2, ([] : List api_Term), 0, 0, h, f0, f1, f7, f9, f10, f11, b_o2, l_o2⟩ ?_
    clear h f0 f1 f7 f9 f10 f11 b_o2 l_o2
    rintro J2 hJ2 μ t H n ⟨o6, co6, v7, v8, v9, h, f0, f1, f7, f9, f10, f11, b_o6, l_o6⟩
    cases μ with
    | zero => exact absurd h (by simp [R13_Split_L0])
    | succ μ =>
    rw [R13_Split_L0] at h
    refine Stk.sq ?_
    refine Stk.sq ?_
    refine Stk.rg ?_
    refine Stk.run 4 (fun t H n => t 0 = .ssl (encs c97 a0) a0.length false ∧ t 1 = .sc (.int .i64 a1) ∧ t 7 = .ssl (encs c97 x1.1) x1.1.length false ∧ t 9 = slc o6 v7.length co6 ∧ t 10 = .sc (.int .i64 v8) ∧ t 11 = .sc (.int .i64 v9) ∧ t 20 = .sc (.bool (decide (v9 < (a0.length : Int)))) ∧ OwnC H 97 13 c97 o6 co6 v7 ∧ (∀ i, o6 = some i → i < n)) (fun J hJ => ?_) ?_
    · simp [-splice, f0, f1, f7, f9, f10, f11]
      exact hJ _ _ _ ⟨by simp [f0], by simp [f1], by simp [f7], by simp [f9], by simp [f10], by simp [f11], by simp [-splice, f0, f1, f7, f9, f10, f11], b_o6, l_o6⟩
    clear f0 f1 f7 f9 f10 f11 b_o6 l_o6
    rintro t H n ⟨f0, f1, f7, f9, f10, f11, f20, b_o6, l_o6⟩
    refine Stk.on ?_
    refine Stk.cond (decide (v9 < (a0.length : Int))) (by exact f20) (fun hb14 => ?_) (fun hb14 => ?_)
    · have h := cT hb14 h
      refine Stk.sk ?_
      refine Stk.sq ?_
      refine Stk.bk ?_
      refine Stk.bk ?_
      refine Stk.sq ?_
      obtain ⟨n0, hn0⟩ : ∃ m, m = n := ⟨n, rfl⟩
      have ln0 : n0 ≤ n := Nat.le_of_eq hn0
      refine Stk.rgD [.rd [], .rd [], .rd [], .rd [], .rd [], .rd [], .rd [], .rd [], .rd [], .rd [], .rd [], .rd [], .rd [], .rd [], .rd [], .rd []] none (by kernel_rfl) (by rfl) rfl (by simp [below]) rfl ?_
      refine Stk.runD 4 (fun t H n => t 0 = .ssl (encs c97 a0) a0.length false ∧ t 1 = .sc (.int .i64 a1) ∧ t 7 = .ssl (encs c97 x1.1) x1.1.length false ∧ t 9 = slc o6 v7.length co6 ∧ t 10 = .sc (.int .i64 v8) ∧ t 11 = .sc (.int .i64 v9) ∧ t 34 = .sc (.bool ((x1.1.length : Int) == 1)) ∧ OwnC H 97 13 c97 o6 co6 v7 ∧ (∀ i, o6 = some i → i < n) ∧ n0 ≤ n) (fun J hJ => ?_) ?_
      · simp [-splice, f0, f1, f7, f9, f10, f11, f20]
        exact hJ _ _ _ ⟨by simp [f0], by simp [f1], by simp [f7], by simp [f9], by simp [f10], by simp [f11], by simp [-splice, f0, f1, f7, f9, f10, f11, f20], b_o6, l_o6, ln0⟩
      clear f0 f1 f7 f9 f10 f11 f20 b_o6 l_o6 ln0
      rintro t H n ⟨f0, f1, f7, f9, f10, f11, f34, b_o6, l_o6, ln0⟩
      obtain ⟨K3, hK3, h⟩ := jnd h
      refine Stk.jd 11 (fun t H n => ∃ v15 : Bool, K3 v15 = some r ∧ t 0 = .ssl (encs c97 a0) a0.length false ∧ t 1 = .sc (.int .i64 a1) ∧ t 7 = .ssl (encs c97 x1.1) x1.1.length false ∧ t 9 = slc o6 v7.length co6 ∧ t 10 = .sc (.int .i64 v8) ∧ t 11 = .sc (.int .i64 v9) ∧ t 45 = .sc (.bool v15) ∧ OwnC H 97 13 c97 o6 co6 v7 ∧ (∀ i, o6 = some i → i < n)) (fun J3 hJ3 => ?_) ?_
      · rcases Bool.eq_false_or_eq_true ((x1.1.length : Int) == 1) with hb3 | hb3
        · rw [hb3] at f34
          replace h := cT hb3 h
          obtain ⟨x16, hx16, h⟩ := bnd h
          obtain ⟨i0x16, i1x16, i2x16, _⟩ := idx_ok hx16
          have ex16_0_95 : partOf T.T 95 (encs c97 a0) (v9.toNat * 13) = some (.agg (c95 x16.Exps)) := by
              have e0 := part_elem0 (e := c97) (z := 13) (T := T.T) (ty := 95) T.t95 (by decide) (by decide) hx16 0 (by decide)
              (try simp only [Nat.mul_one, Nat.add_zero] at e0)
              exact e0.trans (ld_97_0_95 _)
          obtain ⟨x17, hx17, h⟩ := bnd h
          obtain ⟨i0x17, i1x17, i2x17, _⟩ := idx_ok hx17
          have i5x17 : 0 < x1.1.length := by omega
          have i6x17 : ¬ x1.1 = [] := List.ne_nil_of_length_pos i5x17
          have ex17_0_95 : partOf T.T 95 (encs c97 x1.1) 0 = some (.agg (c95 x17.Exps)) := by
              have e0 := part_elem0 (e := c97) (z := 13) (T := T.T) (ty := 95) T.t95 (by decide) (by decide) hx17 0 (by decide)
              (try simp only [Nat.mul_one, Nat.add_zero, Int.toNat_ofNat, Nat.zero_mul, Nat.zero_add] at e0)
              exact e0.trans (ld_97_0_95 _)
          refine Stk.runD 11 (fun t H n => t 0 = .ssl (encs c97 a0) a0.length false ∧ t 1 = .sc (.int .i64 a1) ∧ t 7 = .ssl (encs c97 x1.1) x1.1.length false ∧ t 9 = slc o6 v7.length co6 ∧ t 10 = .sc (.int .i64 v8) ∧ t 11 = .sc (.int .i64 v9) ∧ t 45 = .sc (.bool (x16.Exps.1 == x17.Exps.1)) ∧ OwnC H 97 13 c97 o6 co6 v7 ∧ (∀ i, o6 = some i → i < n) ∧ n0 ≤ n) (fun J hJ => ?_) ?_
          · simp [-splice, f0, f1, f7, f9, f10, f11, f34, i0x16, i1x16, pd95, ex16_0_95, i0x17, i1x17, i5x17, i6x17, ex17_0_95, eqM95]
            exact hJ _ _ _ ⟨by simp [f0], by simp [f1], by simp [f7], by simp [f9], by simp [f10], by simp [f11], by simp [-splice, f0, f1, f7, f9, f10, f11, f34, i0x16, i1x16, pd95, ex16_0_95, i0x17, i1x17, i5x17, i6x17, ex17_0_95, eqM95], b_o6, l_o6, ln0⟩
          clear f0 f1 f7 f9 f10 f11 f34 b_o6 l_o6 ln0
          rintro t H n ⟨f0, f1, f7, f9, f10, f11, f45, b_o6, l_o6, ln0⟩
          refine Stk.onD ?_
          exact Stk.ln 0 (by decide) (hJ3 _ _ _ ⟨(x16.Exps.1 == x17.Exps.1), h, f0, f1, f7, f9, f10, f11, f45, b_o6, l_o6⟩)
        · rw [hb3] at f34
          replace h := cF hb3 h
          refine Stk.runD 11 (fun t H n => t 0 = .ssl (encs c97 a0) a0.length false ∧ t 1 = .sc (.int .i64 a1) ∧ t 7 = .ssl (encs c97 x1.1) x1.1.length false ∧ t 9 = slc o6 v7.length co6 ∧ t 10 = .sc (.int .i64 v8) ∧ t 11 = .sc (.int .i64 v9) ∧ t 45 = .sc (.bool false) ∧ OwnC H 97 13 c97 o6 co6 v7 ∧ (∀ i, o6 = some i → i < n) ∧ n0 ≤ n) (fun J hJ => ?_) ?_
          · simp [-splice, f0, f1, f7, f9, f10, f11, f34]
            exact hJ _ _ _ ⟨by simp [f0], by simp [f1], by simp [f7], by simp [f9], by simp [f10], by simp [f11], by simp [-splice, f0, f1, f7, f9, f10, f11, f34], b_o6, l_o6, ln0⟩
          clear f0 f1 f7 f9 f10 f11 f34 b_o6 l_o6 ln0
          rintro t H n ⟨f0, f1, f7, f9, f10, f11, f45, b_o6, l_o6, ln0⟩
          refine Stk.onD ?_
          exact Stk.ln 0 (by decide) (hJ3 _ _ _ ⟨false, h, f0, f1, f7, f9, f10, f11, f45, b_o6, l_o6⟩)
      clear h f0 f1 f7 f9 f10 f11 f34 b_o6 l_o6 ln0
      rintro t H n ⟨v15, h, f0, f1, f7, f9, f10, f11, f45, b_o6, l_o6⟩
      subst hK3
      refine Stk.runD 1 (fun t H n => t 0 = .ssl (encs c97 a0) a0.length false ∧ t 1 = .sc (.int .i64 a1) ∧ t 7 = .ssl (encs c97 x1.1) x1.1.length false ∧ t 9 = slc o6 v7.length co6 ∧ t 10 = .sc (.int .i64 v8) ∧ t 11 = .sc (.int .i64 v9) ∧ t 30 = .sc (.bool v15) ∧ OwnC H 97 13 c97 o6 co6 v7 ∧ (∀ i, o6 = some i → i < n)) (fun J hJ => ?_) ?_
      · simp [-splice, f0, f1, f7, f9, f10, f11, f45]
        exact hJ _ _ _ ⟨by simp [f0], by simp [f1], by simp [f7], by simp [f9], by simp [f10], by simp [f11], by simp [-splice, f0, f1, f7, f9, f10, f11, f45], b_o6, l_o6⟩
      clear f0 f1 f7 f9 f10 f11 f45 b_o6 l_o6
      rintro t H n ⟨f0, f1, f7, f9, f10, f11, f30, b_o6, l_o6⟩
      refine Stk.onD ?_
      refine Stk.cond v15 (by exact f30) (fun hb18 => ?_) (fun hb18 => ?_)
      · have h := cT hb18 h
        refine Stk.rg ?_
        obtain ⟨x19, hx19, h⟩ := bnd h
        obtain ⟨i0x19, i1x19, i2x19, _⟩ := idx_ok hx19
        have ex19_12_2 : partOf T.T 2 (encs c97 a0) (v9.toNat * 13 + 12) = some (.sc (.int .i64 x19.Coef)) := by
            have e0 := part_elem0 (e := c97) (z := 13) (T := T.T) (ty := 2) T.t2 (by decide) (by decide) hx19 12 (by decide)
            (try simp only [Nat.mul_one, Nat.add_zero] at e0)
            exact e0.trans (ld_97_12_2 _)
        refine Stk.run 6 (fun t H n => t 0 = .ssl (encs c97 a0) a0.length false ∧ t 1 = .sc (.int .i64 a1) ∧ t 7 = .ssl (encs c97 x1.1) x1.1.length false ∧ t 9 = slc o6 v7.length co6 ∧ t 10 = .sc (.int .i64 x19.Coef) ∧ t 11 = .sc (.int .i64 v9) ∧ OwnC H 97 13 c97 o6 co6 v7 ∧ (∀ i, o6 = some i → i < n)) (fun J hJ => ?_) ?_
        · simp [-splice, f0, f1, f7, f9, f10, f11, f30, i0x19, i1x19, pd2, ex19_12_2]
          exact hJ _ _ _ ⟨by simp [f0], by simp [f1], by simp [f7], by simp [f9], by simp [-splice, f0, f1, f7, f9, f10, f11, f30, i0x19, i1x19, pd2, ex19_12_2], by simp [f11], b_o6, l_o6⟩
        clear f0 f1 f7 f9 f10 f11 f30 b_o6 l_o6
        rintro t H n ⟨f0, f1, f7, f9, f10, f11, b_o6, l_o6⟩
        refine Stk.on ?_
        refine Stk.bn ?_
        refine Stk.bn ?_
        refine Stk.rg ?_
        refine Stk.run 3 (fun t H n => t 0 = .ssl (encs c97 a0) a0.length false ∧ t 1 = .sc (.int .i64 a1) ∧ t 7 = .ssl (encs c97 x1.1) x1.1.length false ∧ t 9 = slc o6 v7.length co6 ∧ t 10 = .sc (.int .i64 x19.Coef) ∧ t 11 = .sc (.int .i64 (IntKind.i64.wrap (v9 + 1))) ∧ OwnC H 97 13 c97 o6 co6 v7 ∧ (∀ i, o6 = some i → i < n)) (fun J hJ => ?_) ?_
        · simp [-splice, f0, f1, f7, f9, f10, f11]
          exact hJ _ _ _ ⟨by simp [f0], by simp [f1], by simp [f7], by simp [f9], by simp [f10], by simp [-splice, f0, f1, f7, f9, f10, f11], b_o6, l_o6⟩
        clear f0 f1 f7 f9 f10 f11 b_o6 l_o6
        rintro t H n ⟨f0, f1, f7, f9, f10, f11, b_o6, l_o6⟩
        refine Stk.on ?_
        exact Stk.ln μ (Nat.lt_succ_self _) (hJ2 _ _ _ _ ⟨o6, co6, v7, x19.Coef, (IntKind.i64.wrap (v9 + 1)), h, f0, f1, f7, f9, f10, f11, b_o6, l_o6⟩)
      · have h := cF hb18 h
        refine Stk.sq ?_
        refine Stk.rg ?_
        refine Stk.run 4 (fun t H n => t 0 = .ssl (encs c97 a0) a0.length false ∧ t 1 = .sc (.int .i64 a1) ∧ t 7 = .ssl (encs c97 x1.1) x1.1.length false ∧ t 9 = slc o6 v7.length co6 ∧ t 10 = .sc (.int .i64 v8) ∧ t 11 = .sc (.int .i64 v9) ∧ t 52 = .ssl (encs c97 a0) a0.length false ∧ t 53 = .sc (.int .i64 v9) ∧ t 55 = .sc (.int .i64 (IntKind.i64.wrap (v9 + 1))) ∧ OwnC H 97 13 c97 o6 co6 v7 ∧ (∀ i, o6 = some i → i < n)) (fun J hJ => ?_) ?_
        · simp [-splice, f0, f1, f7, f9, f10, f11, f30]
          exact hJ _ _ _ ⟨by simp [f0], by simp [f1], by simp [f7], by simp [f9], by simp [f10], by simp [f11], by simp [-splice, f0, f1, f7, f9, f10, f11, f30], by simp [-splice, f0, f1, f7, f9, f10, f11, f30], by simp [-splice, f0, f1, f7, f9, f10, f11, f30], b_o6, l_o6⟩
        clear f0 f1 f7 f9 f10 f11 f30 b_o6 l_o6
        rintro t H n ⟨f0, f1, f7, f9, f10, f11, f52, f53, f55, b_o6, l_o6⟩
        obtain ⟨x20, hx20, h⟩ := bnd h
        refine Stk.ov (vop_sub (c := c97) (z := 13) (l := v9) (h := (IntKind.i64.wrap (v9 + 1))) T.t37 rfl T.t97 rfl f52 (.inr ⟨_, _, rfl, f53⟩) (.inr ⟨_, _, rfl, f55⟩) hx20) (by simp [f0, f1, f7, f9, f10, f11, f52, f53, f55]) rfl (fun t' ht' => ?_)
        refine Stk.gen (fun t H n => t 0 = .ssl (encs c97 a0) a0.length false ∧ t 1 = .sc (.int .i64 a1) ∧ t 7 = .ssl (encs c97 x1.1) x1.1.length false ∧ t 9 = slc o6 v7.length co6 ∧ t 10 = .sc (.int .i64 v8) ∧ t 11 = .sc (.int .i64 v9) ∧ t 56 = .ssl (encs c97 x20) x20.length false ∧ OwnC H 97 13 c97 o6 co6 v7 ∧ (∀ i, o6 = some i → i < n)) ⟨by simp [ht', f0], by simp [ht', f1], by simp [ht', f7], by simp [ht', f9], by simp [ht', f10], by simp [ht', f11], by simp [ht'], b_o6, l_o6⟩ ?_
        clear f0 f1 f7 f9 f10 f11 f52 f53 f55 b_o6 l_o6 ht' t'
        rintro t H n ⟨f0, f1, f7, f9, f10, f11, f56, b_o6, l_o6⟩
        refine Stk.run 1 (fun t H n => t 0 = .ssl (encs c97 a0) a0.length false ∧ t 1 = .sc (.int .i64 a1) ∧ t 7 = .ssl (encs c97 x1.1) x1.1.length false ∧ t 9 = slc o6 v7.length co6 ∧ t 10 = .sc (.int .i64 v8) ∧ t 11 = .sc (.int .i64 v9) ∧ t 56 = .ssl (encs c97 x20) x20.length false ∧ t 57 = .sc (.int .i64 a1) ∧ OwnC H 97 13 c97 o6 co6 v7 ∧ (∀ i, o6 = some i → i < n)) (fun J hJ => ?_) ?_
        · simp [-splice, f0, f1, f7, f9, f10, f11, f56]
          exact hJ _ _ _ ⟨by simp [f0], by simp [f1], by simp [f7], by simp [f9], by simp [f10], by simp [f11], by simp [f56], by simp [-splice, f0, f1, f7, f9, f10, f11, f56], b_o6, l_o6⟩
        clear f0 f1 f7 f9 f10 f11 f56 b_o6 l_o6
        rintro t H n ⟨f0, f1, f7, f9, f10, f11, f56, f57, b_o6, l_o6⟩
        obtain ⟨x21, hx21, h⟩ := bnd h
        refine Stk.cv (g := 40) (args := [.ssl (encs c97 x20) x20.length false, .sc (.int .i64 a1)]) (args' := [.ssl (encs c97 x20) x20.length false, .sc (.int .i64 a1)]) (v := .sc (.bool x21)) [] (ok_R13_Has F _ _ _ hx21) (by simp [f0, f1, f7, f9, f10, f11, f56, f57]) rfl rfl (by simp [f0, f1, f7, f9, f10, f11, f56, f57]) (.cons (.free (freeL_encs fr97 _)) (.cons (.free (rfl)) (.nil))) (.inl ⟨rfl, rfl⟩) (fun t' ht' => ?_)
        refine Stk.gen (fun t H n => t 0 = .ssl (encs c97 a0) a0.length false ∧ t 1 = .sc (.int .i64 a1) ∧ t 7 = .ssl (encs c97 x1.1) x1.1.length false ∧ t 9 = slc o6 v7.length co6 ∧ t 10 = .sc (.int .i64 v8) ∧ t 11 = .sc (.int .i64 v9) ∧ t 58 = .sc (.bool x21) ∧ OwnC H 97 13 c97 o6 co6 v7 ∧ (∀ i, o6 = some i → i < n)) ⟨by simp [ht', f0], by simp [ht', f1], by simp [ht', f7], by simp [ht', f9], by simp [ht', f10], by simp [ht', f11], by simp [ht'], b_o6, l_o6⟩ ?_
        clear f0 f1 f7 f9 f10 f11 f56 f57 b_o6 l_o6 ht' t'
        rintro t H n ⟨f0, f1, f7, f9, f10, f11, f58, b_o6, l_o6⟩
        refine Stk.run 1 (fun t H n => t 0 = .ssl (encs c97 a0) a0.length false ∧ t 1 = .sc (.int .i64 a1) ∧ t 7 = .ssl (encs c97 x1.1) x1.1.length false ∧ t 9 = slc o6 v7.length co6 ∧ t 10 = .sc (.int .i64 v8) ∧ t 11 = .sc (.int .i64 v9) ∧ t 51 = .sc (.bool x21) ∧ OwnC H 97 13 c97 o6 co6 v7 ∧ (∀ i, o6 = some i → i < n)) (fun J hJ => ?_) ?_
        · simp [-splice, f0, f1, f7, f9, f10, f11, f58]
          exact hJ _ _ _ ⟨by simp [f0], by simp [f1], by simp [f7], by simp [f9], by simp [f10], by simp [f11], by simp [-splice, f0, f1, f7, f9, f10, f11, f58], b_o6, l_o6⟩
        clear f0 f1 f7 f9 f10 f11 f58 b_o6 l_o6
        rintro t H n ⟨f0, f1, f7, f9, f10, f11, f51, b_o6, l_o6⟩
        refine Stk.on ?_
        refine Stk.cond x21 (by exact f51) (fun hb22 => ?_) (fun hb22 => ?_)
        · have h := cT hb22 h
          refine Stk.sq ?_
          refine Stk.rg ?_
          refine Stk.run 2 (fun t H n => t 4 = .sc (.int .i64 0) ∧ t 5 = .sc (.slice none 0 0)) (fun J hJ => ?_) ?_
          · simp [-splice, f0, f1, f7, f9, f10, f11, f51]
            exact hJ _ _ _ ⟨by simp [-splice, f0, f1, f7, f9, f10, f11, f51], by simp [-splice, f0, f1, f7, f9, f10, f11, f51]⟩
          clear f0 f1 f7 f9 f10 f11 f51 b_o6 l_o6
          rintro t H n ⟨f4, f5⟩
          refine Stk.wk trivial 5 (.ssl (encs c97 ([] : (List api_Term))) ([] : (List api_Term)).length false) (by rw [f5]; exact .inr (.inr .nilS)) (fun t' ht' => ?_)
          refine Stk.gen (fun t H n => t 4 = .sc (.int .i64 0) ∧ t 5 = .ssl (encs c97 ([] : (List api_Term))) ([] : (List api_Term)).length false) ⟨by simp [ht', f4], by simp [ht', f5]⟩ ?_
          clear f4 f5 ht' t'
          rintro t H n ⟨f4, f5⟩
          refine Stk.run 1 (fun t H n => t 4 = .sc (.int .i64 0) ∧ t 5 = .ssl (encs c97 ([] : (List api_Term))) ([] : (List api_Term)).length false ∧ t 6 = .sc (.bool false)) (fun J hJ => ?_) ?_
          · simp [-splice, f4, f5]
            exact hJ _ _ _ ⟨by simp [f4], by simp [f5], by simp [-splice, f4, f5]⟩
          clear f4 f5
          rintro t H n ⟨f4, f5, f6⟩
          refine Stk.on ?_
          refine Stk.rt ?_
          have hq := Option.some.inj h; subst hq
          exact (hr _ _ _ (.tup [.sc (.int .i64 0), .ssl (encs c97 ([] : (List api_Term))) ([] : (List api_Term)).length false, .sc (.bool false)]) ([]) (by simp [f4, f5, f6]) (.inr (.inr (.tup (.cons (.free (rfl)) (.cons (.free (freeL_encs fr97 _)) (.cons (.free (rfl)) (.nil)))))))).1
        · have h := cF hb22 h
          refine Stk.rg ?_
          obtain ⟨x23, hx23, h⟩ := bnd h
          obtain ⟨i0x23, i1x23, i2x23, _⟩ := idx_ok hx23
          have ex23_0_97 : partOf T.T 97 (encs c97 a0) (v9.toNat * 13) = some (.agg (c97 x23)) := by
              have e0 := part_elem0 (e := c97) (z := 13) (T := T.T) (ty := 97) T.t97 (by decide) (by decide) hx23 0 (by decide)
              (try simp only [Nat.mul_one, Nat.add_zero] at e0)
              exact e0.trans (ld_97_0_97 _)
          refine Stk.run 5 (fun t H n => t 0 = .ssl (encs c97 a0) a0.length false ∧ t 1 = .sc (.int .i64 a1) ∧ t 7 = .ssl (encs c97 x1.1) x1.1.length false ∧ t 10 = .sc (.int .i64 v8) ∧ t 11 = .sc (.int .i64 v9) ∧ t 23 = slc o6 v7.length co6 ∧ t 27 = .agg (c97 x23) ∧ OwnC H 97 13 c97 o6 co6 v7 ∧ (∀ i, o6 = some i → i < n)) (fun J hJ => ?_) ?_
          · simp [-splice, f0, f1, f7, f9, f10, f11, f51, i0x23, i1x23, pd97, ex23_0_97]
            exact hJ _ _ _ ⟨by simp [f0], by simp [f1], by simp [f7], by simp [f10], by simp [f11], by simp [-splice, f0, f1, f7, f9, f10, f11, f51, i0x23, i1x23, pd97, ex23_0_97], by simp [-splice, f0, f1, f7, f9, f10, f11, f51, i0x23, i1x23, pd97, ex23_0_97], b_o6, l_o6⟩
          clear f0 f1 f7 f9 f10 f11 f51 b_o6 l_o6
          rintro t H n ⟨f0, f1, f7, f10, f11, f23, f27, b_o6, l_o6⟩
          refine Stk.om (mop_buildN (c := c97) (z := 13) T.t37 rfl T.t97 rfl (by decide) rfl (by decide) [x23] rfl (.cons f27 rfl rfl rfl (len97 _) (by simp [length_encs]) (splice_next (c := c97) [] _ x23 rfl (by simp)) (.nil))) (by simp [f0, f1, f7, f10, f11, f23, f27]) rfl (fun t' ht' => ?_)
          refine Stk.gen (fun t H n => ∃ b24, t 0 = .ssl (encs c97 a0) a0.length false ∧ t 1 = .sc (.int .i64 a1) ∧ t 7 = .ssl (encs c97 x1.1) x1.1.length false ∧ t 10 = .sc (.int .i64 v8) ∧ t 11 = .sc (.int .i64 v9) ∧ t 23 = slc o6 v7.length co6 ∧ t 28 = .osl b24 0 ([x23] : List api_Term).length (some ([x23] : List api_Term).length) ∧ H b24 = some (.cells (encs c97 ([x23] : List api_Term)) 97) ∧ b24 < n ∧ OwnC H 97 13 c97 o6 co6 v7 ∧ (∀ i, o6 = some i → i < n) ∧ (∀ i, o6 = some i → i ≠ b24)) ⟨n, by simp [ht', f0], by simp [ht', f1], by simp [ht', f7], by simp [ht', f10], by simp [ht', f11], by simp [ht', f23], by simp [ht'], upd_same _ _ _, Nat.lt_succ_self _, b_o6.mono (fun i hi => upd_ne _ _ (Nat.ne_of_lt (l_o6 i hi))), fun i hi => Nat.lt_succ_of_lt (l_o6 i hi), fun i hi => Nat.ne_of_lt (l_o6 i hi)⟩ ?_
          clear f0 f1 f7 f10 f11 f23 f27 b_o6 l_o6 ht' t'
          rintro t H n ⟨b24, f0, f1, f7, f10, f11, f23, f28, b_b24, l_b24, b_o6, l_o6, d_b24_o6⟩
          obtain ⟨x25, hx25, h⟩ := bnd h
          obtain ⟨r1x25, r2x25, r3x25⟩ := appM_ok hx25
          obtain ⟨o26, co26, H9, n9, e9, w9, le9, fr9, kp9⟩ := append_ownC (e := c97) (z := 13) (st := 37) T.t37 rfl T.t97 rfl (by decide) rfl (by decide) b_o6 l_o6 (y := .osl b24 0 ([x23] : List api_Term).length (some ([x23] : List api_Term).length)) ([x23] : List api_Term) (elems_row b_b24 _) (all_encs ok97 _) r1x25 r2x25
          rw [r3x25] at e9 w9
          refine Stk.om ((mop_append T.t37 rfl).trans (by rw [show ev t (.tmp 23) = t 23 from rfl, f23]; rw [show ev t (.tmp 28) = t 28 from rfl, f28];  exact e9)) (by simp [f0, f1, f7, f10, f11, f23, f28]) rfl (fun t' ht' => ?_)
          refine Stk.gen (fun t H n => t 0 = .ssl (encs c97 a0) a0.length false ∧ t 1 = .sc (.int .i64 a1) ∧ t 7 = .ssl (encs c97 x1.1) x1.1.length false ∧ t 10 = .sc (.int .i64 v8) ∧ t 11 = .sc (.int .i64 v9) ∧ t 29 = slc o26 x25.length co26 ∧ OwnC H 97 13 c97 o26 co26 x25 ∧ (∀ i, o26 = some i → i < n)) ⟨by simp [ht', f0], by simp [ht', f1], by simp [ht', f7], by simp [ht', f10], by simp [ht', f11], by simp [ht'], w9, fun i hi => (fr9 i hi).2⟩ ?_
          clear f0 f1 f7 f10 f11 f23 f28 b_b24 l_b24 b_o6 l_o6 d_b24_o6 ht' t'
          rintro t H n ⟨f0, f1, f7, f10, f11, f29, b_o26, l_o26⟩
          refine Stk.run 1 (fun t H n => t 0 = .ssl (encs c97 a0) a0.length false ∧ t 1 = .sc (.int .i64 a1) ∧ t 7 = .ssl (encs c97 x1.1) x1.1.length false ∧ t 9 = slc o26 x25.length co26 ∧ t 10 = .sc (.int .i64 v8) ∧ t 11 = .sc (.int .i64 v9) ∧ OwnC H 97 13 c97 o26 co26 x25 ∧ (∀ i, o26 = some i → i < n)) (fun J hJ => ?_) ?_
          · simp [-splice, f0, f1, f7, f10, f11, f29]
            exact hJ _ _ _ ⟨by simp [f0], by simp [f1], by simp [f7], by simp [-splice, f0, f1, f7, f10, f11, f29], by simp [f10], by simp [f11], b_o26, l_o26⟩
          clear f0 f1 f7 f10 f11 f29 b_o26 l_o26
          rintro t H n ⟨f0, f1, f7, f9, f10, f11, b_o26, l_o26⟩
          refine Stk.on ?_
          refine Stk.bn ?_
          refine Stk.bn ?_
          refine Stk.rg ?_
          refine Stk.run 3 (fun t H n => t 0 = .ssl (encs c97 a0) a0.length false ∧ t 1 = .sc (.int .i64 a1) ∧ t 7 = .ssl (encs c97 x1.1) x1.1.length false ∧ t 9 = slc o26 x25.length co26 ∧ t 10 = .sc (.int .i64 v8) ∧ t 11 = .sc (.int .i64 (IntKind.i64.wrap (v9 + 1))) ∧ OwnC H 97 13 c97 o26 co26 x25 ∧ (∀ i, o26 = some i → i < n)) (fun J hJ => ?_) ?_
          · simp [-splice, f0, f1, f7, f9, f10, f11]
            exact hJ _ _ _ ⟨by simp [f0], by simp [f1], by simp [f7], by simp [f9], by simp [f10], by simp [-splice, f0, f1, f7, f9, f10, f11], b_o26, l_o26⟩
          clear f0 f1 f7 f9 f10 f11 b_o26 l_o26
          rintro t H n ⟨f0, f1, f7, f9, f10, f11, b_o26, l_o26⟩
          refine Stk.on ?_
          exact Stk.ln μ (Nat.lt_succ_self _) (hJ2 _ _ _ _ ⟨o26, co26, x25, v8, (IntKind.i64.wrap (v9 + 1)), h, f0, f1, f7, f9, f10, f11, b_o26, l_o26⟩)
    · have h := cF hb14 h
      refine Stk.ex rfl ?_
      exact Stk.ln 0 (by decide) (hJ1 _ _ _ ⟨o6, co6, v7, v8, h, f9, f10, b_o6, l_o6⟩)
  clear h f0 f1 f7 f9 f10 f11 b_o2 l_o2
  rintro t H n ⟨o3, co3, v4, v5, h, f9, f10, b_o3, l_o3⟩
  subst hK1
  refine Stk.sq ?_
  refine Stk.rg ?_
  refine Stk.run 5 (fun t H n => t 4 = .sc (.int .i64 v5) ∧ t 5 = slc o3 v4.length co3 ∧ t 6 = .sc (.bool true) ∧ OwnC H 97 13 c97 o3 co3 v4 ∧ (∀ i, o3 = some i → i < n)) (fun J hJ => ?_) ?_
  · simp [-splice, f9, f10]
    exact hJ _ _ _ ⟨by simp [-splice, f9, f10], by simp [-splice, f9, f10], by simp [-splice, f9, f10], b_o3, l_o3⟩
  clear f9 f10 b_o3 l_o3
  rintro t H n ⟨f4, f5, f6, b_o3, l_o3⟩
  refine Stk.wkf trivial o3.toList 5 (.ssl (encs c97 v4) v4.length false) (by rw [f5]; exact .inr (.inr (view_ownC fr97 b_o3 (fun i hi => by simp [hi])))) (fun t' H' ht' hH' => ?_)
  refine Stk.gen (fun t H n => t 4 = .sc (.int .i64 v5) ∧ t 5 = .ssl (encs c97 v4) v4.length false ∧ t 6 = .sc (.bool true)) ⟨by simp [ht', f4], by simp [ht', f5], by simp [ht', f6]⟩ ?_
  clear f4 f5 f6 b_o3 l_o3 hH' ht' t' H'
  rintro t H n ⟨f4, f5, f6⟩
  refine Stk.on ?_
  refine Stk.rt ?_
  have hq := Option.some.inj h; subst hq
  exact (hr _ _ _ (.tup [.sc (.int .i64 v5), .ssl (encs c97 v4) v4.length false, .sc (.bool true)]) ([]) (by simp [f4, f5, f6]) (.inr (.inr (.tup (.cons (.free (rfl)) (.cons (.free (freeL_encs fr97 _)) (.cons (.free (rfl)) (.nil)))))))).1
theorem ok_slices_IndexFunc_api_Poly_api_Term (F : Nat) (a0 : (List api_Term)) (φ1 : api_Term → Option Bool) (g1 : FuncId) (first1 caps1 : List AV) (fr1 : freeL first1 = true ∧ freeL caps1 = true) (hφ1 : ∀ y0 r, φ1 y0 = some r → RunF Try.prog T.T g1 (first1 ++ [.agg (c97 y0)] ++ caps1) (.sc (.bool r))) (r : Int) (h : slices_IndexFunc_api_Poly_api_Term F a0 φ1 = some r) : RunF Try.prog T.T 92 [.ssl (encs c97 a0) a0.length false, .fn (.func g1) first1 caps1] (.sc (.int .i64 r)) := by
  rw [slices_IndexFunc_api_Poly_api_Term] at h
  refine RunF.z Try.func92 rfl rfl rfl rfl rfl (fun C hr => ?_)
  refine Stk.gen (fun t H n => t 0 = .ssl (encs c97 a0) a0.length false ∧ t 1 = .fn (.func g1) first1 caps1) ⟨by simp, by simp⟩ ?_
  rintro t H n ⟨f0, f1⟩
  refine Stk.sq ?_
  refine Stk.rg ?_
  refine Stk.run 1 (fun t H n => t 0 = .ssl (encs c97 a0) a0.length false ∧ t 1 = .fn (.func g1) first1 caps1) (fun J hJ => ?_) ?_
  · simp [-splice, f0, f1]
    exact hJ _ _ _ ⟨by simp [f0], by simp [f1]⟩
  clear f0 f1
  rintro t H n ⟨f0, f1⟩
  refine Stk.on ?_
  refine Stk.sq ?_
  refine Stk.sq ?_
  refine Stk.rg ?_
  refine Stk.run 3 (fun t H n => t 0 = .ssl (encs c97 a0) a0.length false ∧ t 1 = .fn (.func g1) first1 caps1 ∧ t 7 = .sc (.int .i64 (a0.length : Int)) ∧ t 8 = .sc (.int .i64 0)) (fun J hJ => ?_) ?_
  · simp [-splice, f0, f1]
    exact hJ _ _ _ ⟨by simp [f0], by simp [f1], by simp [-splice, f0, f1], by simp [-splice, f0, f1]⟩
  clear f0 f1
  rintro t H n ⟨f0, f1, f7, f8⟩
  refine Stk.on ?_
  refine Stk.bk ?_
  refine Stk.lo (fun μ t H n => ∃ v1 : Int, slices_IndexFunc_api_Poly_api_Term_L0 F a0 φ1 μ v1 = some r ∧ t 0 = .ssl (encs c97 a0) a0.length false ∧ t 1 = .fn (.func g1) first1 caps1 ∧ t 7 = .sc (.int .i64 (a0.length : Int)) ∧ t 8 = .sc (.int .i64 v1)) F ⟨0, h, f0, f1, f7, f8⟩ ?_
  clear h f0 f1 f7 f8
  rintro J1 hJ1 μ t H n ⟨v1, h, f0, f1, f7, f8⟩
  cases μ with
  | zero => exact absurd h (by simp [slices_IndexFunc_api_Poly_api_Term_L0])
  | succ μ =>
  rw [slices_IndexFunc_api_Poly_api_Term_L0] at h
  refine Stk.sq ?_
  refine Stk.rg ?_
  refine Stk.run 1 (fun t H n => t 0 = .ssl (encs c97 a0) a0.length false ∧ t 1 = .fn (.func g1) first1 caps1 ∧ t 7 = .sc (.int .i64 (a0.length : Int)) ∧ t 8 = .sc (.int .i64 v1) ∧ t 9 = .sc (.bool (decide (v1 < (a0.length : Int))))) (fun J hJ => ?_) ?_
  · simp [-splice, f0, f1, f7, f8]
    exact hJ _ _ _ ⟨by simp [f0], by simp [f1], by simp [f7], by simp [f8], by simp [-splice, f0, f1, f7, f8]⟩
  clear f0 f1 f7 f8
  rintro t H n ⟨f0, f1, f7, f8, f9⟩
  refine Stk.on ?_
  refine Stk.sq ?_
  refine Stk.cond (decide (v1 < (a0.length : Int))) (by exact f9) (fun hb3 => ?_) (fun hb3 => ?_)
  · have h := cT hb3 h
    refine Stk.sk ?_
    refine Stk.sq ?_
    refine Stk.bk ?_
    refine Stk.sq ?_
    refine Stk.rg ?_
    refine Stk.run 2 (fun t H n => t 0 = .ssl (encs c97 a0) a0.length false ∧ t 1 = .fn (.func g1) first1 caps1 ∧ t 5 = .sc (.int .i64 v1) ∧ t 7 = .sc (.int .i64 (a0.length : Int)) ∧ t 8 = .sc (.int .i64 v1)) (fun J hJ => ?_) ?_
    · simp [-splice, f0, f1, f7, f8, f9]
      exact hJ _ _ _ ⟨by simp [f0], by simp [f1], by simp [-splice, f0, f1, f7, f8, f9], by simp [f7], by simp [f8]⟩
    clear f0 f1 f7 f8 f9
    rintro t H n ⟨f0, f1, f5, f7, f8⟩
    refine Stk.on ?_
    refine Stk.sq ?_
    refine Stk.rg ?_
    obtain ⟨x4, hx4, h⟩ := bnd h
    obtain ⟨i0x4, i1x4, i2x4, _⟩ := idx_ok hx4
    have ex4_0_97 : partOf T.T 97 (encs c97 a0) (v1.toNat * 13) = some (.agg (c97 x4)) := by
        have e0 := part_elem0 (e := c97) (z := 13) (T := T.T) (ty := 97) T.t97 (by decide) (by decide) hx4 0 (by decide)
        (try simp only [Nat.mul_one, Nat.add_zero] at e0)
        exact e0.trans (ld_97_0_97 _)
    refine Stk.run 5 (fun t H n => t 0 = .ssl (encs c97 a0) a0.length false ∧ t 1 = .fn (.func g1) first1 caps1 ∧ t 5 = .sc (.int .i64 v1) ∧ t 7 = .sc (.int .i64 (a0.length : Int)) ∧ t 8 = .sc (.int .i64 v1) ∧ t 11 = .fn (.func g1) first1 caps1 ∧ t 15 = .agg (c97 x4)) (fun J hJ => ?_) ?_
    · simp [-splice, f0, f1, f5, f7, f8, i0x4, i1x4, pd97, ex4_0_97]
      exact hJ _ _ _ ⟨by simp [f0], by simp [f1], by simp [f5], by simp [f7], by simp [f8], by simp [-splice, f0, f1, f5, f7, f8, i0x4, i1x4, pd97, ex4_0_97], by simp [-splice, f0, f1, f5, f7, f8, i0x4, i1x4, pd97, ex4_0_97]⟩
    clear f0 f1 f5 f7 f8
    rintro t H n ⟨f0, f1, f5, f7, f8, f11, f15⟩
    obtain ⟨x5, hx5, h⟩ := bnd h
    refine Stk.cv (g := g1) (args := first1 ++ [.agg (c97 x4)] ++ caps1) (args' := first1 ++ [.agg (c97 x4)] ++ caps1) (v := .sc (.bool x5)) [] (hφ1 _ _ hx5) (by simp [f0, f1, f5, f7, f8, f11, f15]) rfl f11 (by simp [f0, f1, f5, f7, f8, f11, f15]) (viewL_mid (x := [.agg (c97 x4)]) (y := [.agg (c97 x4)]) fr1.1 fr1.2 (.cons (.free (fr97 _)) (.nil))) (.inl ⟨rfl, rfl⟩) (fun t' ht' => ?_)
    refine Stk.gen (fun t H n => t 0 = .ssl (encs c97 a0) a0.length false ∧ t 1 = .fn (.func g1) first1 caps1 ∧ t 5 = .sc (.int .i64 v1) ∧ t 7 = .sc (.int .i64 (a0.length : Int)) ∧ t 8 = .sc (.int .i64 v1) ∧ t 16 = .sc (.bool x5)) ⟨by simp [ht', f0], by simp [ht', f1], by simp [ht', f5], by simp [ht', f7], by simp [ht', f8], by simp [ht']⟩ ?_
    clear f0 f1 f5 f7 f8 f11 f15 ht' t'
    rintro t H n ⟨f0, f1, f5, f7, f8, f16⟩
    refine Stk.on ?_
    refine Stk.cond x5 (by exact f16) (fun hb6 => ?_) (fun hb6 => ?_)
    · have h := cT hb6 h
      refine Stk.sq ?_
      refine Stk.rg ?_
      refine Stk.run 2 (fun t H n => t 4 = .sc (.int .i64 v1)) (fun J hJ => ?_) ?_
      · simp [-splice, f0, f1, f5, f7, f8, f16]
        exact hJ _ _ _ (by simp [-splice, f0, f1, f5, f7, f8, f16])
      clear f0 f1 f5 f7 f8 f16
      rintro t H n f4
      refine Stk.on ?_
      refine Stk.rt ?_
      have hq := Option.some.inj h; subst hq
      exact (hr _ _ _ (.sc (.int .i64 v1)) ([]) (by simp [f4]) (.inr (.inr (.free (rfl))))).1
    · have h := cF hb6 h
      refine Stk.sk ?_
      refine Stk.bn ?_
      refine Stk.rg ?_
      refine Stk.run 2 (fun t H n => t 0 = .ssl (encs c97 a0) a0.length false ∧ t 1 = .fn (.func g1) first1 caps1 ∧ t 7 = .sc (.int .i64 (a0.length : Int)) ∧ t 8 = .sc (.int .i64 (IntKind.i64.wrap (v1 + 1)))) (fun J hJ => ?_) ?_
      · simp [-splice, f0, f1, f5, f7, f8, f16]
        exact hJ _ _ _ ⟨by simp [f0], by simp [f1], by simp [f7], by simp [-splice, f0, f1, f5, f7, f8, f16]⟩
      clear f0 f1 f5 f7 f8 f16
      rintro t H n ⟨f0, f1, f7, f8⟩
      refine Stk.on ?_
      exact Stk.ln μ (Nat.lt_succ_self _) (hJ1 _ _ _ _ ⟨(IntKind.i64.wrap (v1 + 1)), h, f0, f1, f7, f8⟩)
  · have h := cF hb3 h
    refine Stk.ex rfl ?_
    refine Stk.sq ?_
    refine Stk.rg ?_
    refine Stk.run 1 (fun t H n => t 4 = .sc (.int .i64 (-1))) (fun J hJ => ?_) ?_
    · simp [-splice, f0, f1, f7, f8, f9]
      exact hJ _ _ _ (by simp [-splice, f0, f1, f7, f8, f9])
    clear f0 f1 f7 f8 f9
    rintro t H n f4
    refine Stk.on ?_
    refine Stk.rt ?_
    have hq := Option.some.inj h; subst hq
    exact (hr _ _ _ (.sc (.int .i64 (-1))) ([]) (by simp [f4]) (.inr (.inr (.free (rfl))))).1
theorem ok_slices_ContainsFunc_api_Poly_api_Term (F : Nat) (a0 : (List api_Term)) (φ1 : api_Term → Option Bool) (g1 : FuncId) (first1 caps1 : List AV) (fr1 : freeL first1 = true ∧ freeL caps1 = true) (hφ1 : ∀ y0 r, φ1 y0 = some r → RunF Try.prog T.T g1 (first1 ++ [.agg (c97 y0)] ++ caps1) (.sc (.bool r))) (r : Bool) (h : slices_ContainsFunc_api_Poly_api_Term F a0 φ1 = some r) : RunF Try.prog T.T 76 [.ssl (encs c97 a0) a0.length false, .fn (.func g1) first1 caps1] (.sc (.bool r)) := by
  rw [slices_ContainsFunc_api_Poly_api_Term] at h
  refine RunF.z Try.func76 rfl rfl rfl rfl rfl (fun C hr => ?_)
  refine Stk.gen (fun t H n => t 0 = .ssl (encs c97 a0) a0.length false ∧ t 1 = .fn (.func g1) first1 caps1) ⟨by simp, by simp⟩ ?_
  rintro t H n ⟨f0, f1⟩
  refine Stk.sq ?_
  refine Stk.rg ?_
  refine Stk.run 1 (fun t H n => t 0 = .ssl (encs c97 a0) a0.length false ∧ t 1 = .fn (.func g1) first1 caps1) (fun J hJ => ?_) ?_
  · simp [-splice, f0, f1]
    exact hJ _ _ _ ⟨by simp [f0], by simp [f1]⟩
  clear f0 f1
  rintro t H n ⟨f0, f1⟩
  refine Stk.on ?_
  refine Stk.sq ?_
  refine Stk.rg ?_
  refine Stk.run 2 (fun t H n => t 5 = .ssl (encs c97 a0) a0.length false ∧ t 6 = .fn (.func g1) first1 caps1) (fun J hJ => ?_) ?_
  · simp [-splice, f0, f1]
    exact hJ _ _ _ ⟨by simp [-splice, f0, f1], by simp [-splice, f0, f1]⟩
  clear f0 f1
  rintro t H n ⟨f5, f6⟩
  obtain ⟨x1, hx1, h⟩ := bnd h
  refine Stk.cv (g := 92) (args := [.ssl (encs c97 a0) a0.length false, .fn (.func g1) first1 caps1]) (args' := [.ssl (encs c97 a0) a0.length false, .fn (.func g1) first1 caps1]) (v := .sc (.int .i64 x1)) [] (ok_slices_IndexFunc_api_Poly_api_Term F _ _ _ _ _ fr1 hφ1 _ hx1) (by simp [f5, f6]) rfl rfl (by simp [f5, f6]) (.cons (.free (freeL_encs fr97 _)) (.cons (.free (by simp [free, fr1])) (.nil))) (.inl ⟨rfl, rfl⟩) (fun t' ht' => ?_)
  refine Stk.gen (fun t H n => t 7 = .sc (.int .i64 x1)) (by simp [ht']) ?_
  clear f5 f6 ht' t'
  rintro t H n f7
  refine Stk.run 2 (fun t H n => t 4 = .sc (.bool (decide (0 ≤ x1)))) (fun J hJ => ?_) ?_
  · simp [-splice, f7]
    exact hJ _ _ _ (by simp [-splice, f7])
  clear f7
  rintro t H n f4
  refine Stk.on ?_
  refine Stk.rt ?_
  have hq := Option.some.inj h; subst hq
  exact (hr _ _ _ (.sc (.bool (decide (0 ≤ x1)))) ([]) (by simp [f4]) (.inr (.inr (.free (rfl))))).1
theorem ok_poly_Has_1 (F : Nat) (a0 : api_Term) (a1 : Int) (r : Bool) (h : poly_Has_1 F a0 a1 = some r) : RunF Try.prog T.T 77 [.agg (c97 a0), .sh (c3 a1)] (.sc (.bool r)) := by
  rw [poly_Has_1] at h
  refine RunF.z Try.func77 rfl rfl rfl rfl rfl (fun C hr => ?_)
  refine Stk.gen (fun t H n => t 0 = .agg (c97 a0) ∧ t 1 = .sh (c3 a1)) ⟨by simp, by simp⟩ ?_
  rintro t H n ⟨f0, f1⟩
  refine Stk.sq ?_
  refine Stk.rg ?_
  refine Stk.om (mop_box T.t97 (cs := c97 a0) (by show partOk (t 0) = true; rw [f0]; rfl) (by show cellsOf (t 0) = _; rw [f0]; rfl)) (by simp [f0, f1]) rfl (fun t' ht' => ?_)
  refine Stk.gen (fun t H n => ∃ b1, t 1 = .sh (c3 a1) ∧ t 2 = .own b1 0 ∧ H b1 = some (.cells (c97 a0) 97) ∧ b1 < n) ⟨n, by simp [ht', f1], by simp [ht'], upd_same _ _ _, Nat.lt_succ_self _⟩ ?_
  clear f0 f1 ht' t'
  rintro t H n ⟨b1, f1, f2, b_b1, l_b1⟩
  refine Stk.run 1 (fun t H n => t 1 = .sh (c3 a1) ∧ t 2 = .own b1 0 ∧ H b1 = some (.cells (c97 a0) 97) ∧ b1 < n) (fun J hJ => ?_) ?_
  · simp [-splice, f1, f2, b_b1]
    exact hJ _ _ _ ⟨by simp [f1], by simp [f2], b_b1, l_b1⟩
  clear f1 f2 b_b1 l_b1
  rintro t H n ⟨f1, f2, b_b1, l_b1⟩
  refine Stk.on ?_
  refine Stk.sq ?_
  refine Stk.rg ?_
  obtain ⟨x2, hx2, h⟩ := bnd h
  obtain ⟨i0x2, i1x2, i2x2, _⟩ := idx_ok hx2
  have i3x2 : a1 < 12 := by rw [a0.Exps.2] at i1x2; exact i1x2
  have i4x2 : a1.toNat < 12 := by omega
  have qx2 : partOf T.T 5 (c97 a0) a1.toNat = some (.sc (.int .u8 x2)) := by
    rw [c97]
    rw [part_head T.t5 (by decide) (by rw [Enc.len (e := c95)]; show _ + 1 ≤ _; omega)]
    rw [c95]
    have e0 := part_elem0 (e := c5) (z := 1) (T := T.T) (ty := 5) T.t5 (by decide) (by decide) hx2 0 (by decide)
    (try simp only [Nat.mul_one, Nat.add_zero] at e0)
    exact e0.trans rfl
  refine Stk.run 6 (fun t H n => t 3 = .sc (.bool (decide (0 < x2)))) (fun J hJ => ?_) ?_
  · simp [-splice, f1, f2, b_b1, pd3, ld_3_0_3, i0x2, i1x2, i3x2, i4x2, qx2]
    exact hJ _ _ _ (by simp [-splice, f1, f2, b_b1, pd3, ld_3_0_3, i0x2, i1x2, i3x2, i4x2, qx2])
  clear f1 f2 b_b1 l_b1
  rintro t H n f3
  refine Stk.on ?_
  refine Stk.rt ?_
  have hq := Option.some.inj h; subst hq
  exact (hr _ _ _ (.sc (.bool (decide (0 < x2)))) ([]) (by simp [f3]) (.inr (.inr (.free (rfl))))).1
theorem ok_poly_Has (F : Nat) (a0 : (List api_Term)) (a1 : Int) (r : Bool) (h : poly_Has F a0 a1 = some r) : RunF Try.prog T.T 39 [.ssl (encs c97 a0) a0.length false, .sc (.int .i64 a1)] (.sc (.bool r)) := by
  rw [poly_Has] at h
  refine RunF.z Try.func39 rfl rfl rfl rfl rfl (fun C hr => ?_)
  refine Stk.gen (fun t H n => t 0 = .ssl (encs c97 a0) a0.length false ∧ t 1 = .sc (.int .i64 a1)) ⟨by simp, by simp⟩ ?_
  rintro t H n ⟨f0, f1⟩
  refine Stk.sq ?_
  refine Stk.rg ?_
  refine Stk.om (mop_box T.t3 (cs := c3 a1) (by show partOk (t 1) = true; rw [f1]; rfl) (by show cellsOf (t 1) = _; rw [f1]; rfl)) (by simp [f0, f1]) rfl (fun t' ht' => ?_)
  refine Stk.gen (fun t H n => ∃ b1, t 0 = .ssl (encs c97 a0) a0.length false ∧ t 3 = .own b1 0 ∧ H b1 = some (.cells (c3 a1) 3) ∧ b1 < n) ⟨n, by simp [ht', f0], by simp [ht'], upd_same _ _ _, Nat.lt_succ_self _⟩ ?_
  clear f0 f1 ht' t'
  rintro t H n ⟨b1, f0, f3, b_b1, l_b1⟩
  refine Stk.run 1 (fun t H n => t 0 = .ssl (encs c97 a0) a0.length false ∧ t 3 = .own b1 0 ∧ H b1 = some (.cells (c3 a1) 3) ∧ b1 < n) (fun J hJ => ?_) ?_
  · simp [-splice, f0, f3, b_b1]
    exact hJ _ _ _ ⟨by simp [f0], by simp [f3], b_b1, l_b1⟩
  clear f0 f3 b_b1 l_b1
  rintro t H n ⟨f0, f3, b_b1, l_b1⟩
  refine Stk.on ?_
  refine Stk.sq ?_
  refine Stk.sq ?_
  refine Stk.rg ?_
  refine Stk.run 3 (fun t H n => t 0 = .ssl (encs c97 a0) a0.length false ∧ t 3 = .own b1 0 ∧ t 7 = .sc (.bool (decide (a1 < 0))) ∧ H b1 = some (.cells (c3 a1) 3) ∧ b1 < n) (fun J hJ => ?_) ?_
  · simp [-splice, f0, f3, b_b1, ld_3_0_3]
    exact hJ _ _ _ ⟨by simp [f0], by simp [f3], by simp [-splice, f0, f3, b_b1, ld_3_0_3], b_b1, l_b1⟩
  clear f0 f3 b_b1 l_b1
  rintro t H n ⟨f0, f3, f7, b_b1, l_b1⟩
  refine Stk.jo 3 (fun t H n => t 0 = .ssl (encs c97 a0) a0.length false ∧ t 3 = .own b1 0 ∧ t 10 = .sc (.bool ((decide (a1 < 0)) || (decide (12 ≤ a1)))) ∧ H b1 = some (.cells (c3 a1) 3) ∧ b1 < n) (fun J1 hJ1 => ?_) ?_
  · rcases Bool.eq_false_or_eq_true (decide (a1 < 0)) with hb1 | hb1
    · rw [hb1] at f7
      refine Stk.run 3 (fun t H n => t 0 = .ssl (encs c97 a0) a0.length false ∧ t 3 = .own b1 0 ∧ t 10 = .sc (.bool true) ∧ H b1 = some (.cells (c3 a1) 3) ∧ b1 < n) (fun J hJ => ?_) ?_
      · simp [-splice, f0, f3, f7, b_b1]
        exact hJ _ _ _ ⟨by simp [f0], by simp [f3], by simp [-splice, f0, f3, f7, b_b1], b_b1, l_b1⟩
      clear f0 f3 f7 b_b1 l_b1
      rintro t H n ⟨f0, f3, f10, b_b1, l_b1⟩
      refine Stk.on ?_
      exact Stk.ln 0 (by decide) (hJ1 _ _ _ ⟨f0, f3, f10.trans (congrArg (fun q => AV.sc (.bool q)) (by rw [hb1]; rfl)), b_b1, l_b1⟩)
    · rw [hb1] at f7
      refine Stk.run 3 (fun t H n => t 0 = .ssl (encs c97 a0) a0.length false ∧ t 3 = .own b1 0 ∧ t 10 = .sc (.bool (decide (12 ≤ a1))) ∧ H b1 = some (.cells (c3 a1) 3) ∧ b1 < n) (fun J hJ => ?_) ?_
      · simp [-splice, f0, f3, f7, b_b1, ld_3_0_3]
        exact hJ _ _ _ ⟨by simp [f0], by simp [f3], by simp [-splice, f0, f3, f7, b_b1, ld_3_0_3], b_b1, l_b1⟩
      clear f0 f3 f7 b_b1 l_b1
      rintro t H n ⟨f0, f3, f10, b_b1, l_b1⟩
      refine Stk.on ?_
      exact Stk.ln 0 (by decide) (hJ1 _ _ _ ⟨f0, f3, f10.trans (congrArg (fun q => AV.sc (.bool q)) (by rw [hb1]; rfl)), b_b1, l_b1⟩)
  clear f0 f3 f7 b_b1 l_b1
  rintro t H n ⟨f0, f3, f10, b_b1, l_b1⟩
  refine Stk.on ?_
  refine Stk.cond ((decide (a1 < 0)) || (decide (12 ≤ a1))) (by exact f10) (fun hb2 => ?_) (fun hb2 => ?_)
  · have h := cT hb2 h
    refine Stk.sq ?_
    refine Stk.rg ?_
    refine Stk.run 1 (fun t H n => t 4 = .sc (.bool false)) (fun J hJ => ?_) ?_
    · simp [-splice, f0, f3, f10, b_b1]
      exact hJ _ _ _ (by simp [-splice, f0, f3, f10, b_b1])
    clear f0 f3 f10 b_b1 l_b1
    rintro t H n f4
    refine Stk.on ?_
    refine Stk.rt ?_
    have hq := Option.some.inj h; subst hq
    exact (hr _ _ _ (.sc (.bool false)) ([]) (by simp [f4]) (.inr (.inr (.free (rfl))))).1
  · have h := cF hb2 h
    refine Stk.sk ?_
    refine Stk.sq ?_
    refine Stk.rg ?_
    refine Stk.run 2 (fun t H n => t 11 = .ssl (encs c97 a0) a0.length false ∧ t 12 = .fn (.func 77) [] [.own b1 0] ∧ H b1 = some (.cells (c3 a1) 3) ∧ b1 < n) (fun J hJ => ?_) ?_
    · simp [-splice, f0, f3, f10, b_b1]
      exact hJ _ _ _ ⟨by simp [-splice, f0, f3, f10, b_b1], by simp [-splice, f0, f3, f10, b_b1], b_b1, l_b1⟩
    clear f0 f3 f10 b_b1 l_b1
    rintro t H n ⟨f11, f12, b_b1, l_b1⟩
    obtain ⟨x3, hx3, h⟩ := bnd h
    refine Stk.cv (g := 76) (args := [.ssl (encs c97 a0) a0.length false, .fn (.func 77) [] [.own b1 0]]) (args' := [.ssl (encs c97 a0) a0.length false, .fn (.func 77) [] [.sh (c3 a1)]]) (v := .sc (.bool x3)) [b1] (ok_slices_ContainsFunc_api_Poly_api_Term F _ _ 77 [] [.sh (c3 a1)] ⟨rfl, by simp [freeL, free, fr3]⟩ (fun y0 r h => ok_poly_Has_1 F y0 _ r h) _ hx3) (by simp [f11, f12]) rfl rfl (by simp [f11, f12]) (.cons (.free (freeL_encs fr97 _)) (.cons (.fn .nil (.cons (view_blk b_b1 (by simp) (fr3 _)) (.nil))) (.nil))) (.inr rfl) (fun t' ht' => ?_)
    refine Stk.gen (fun t H n => t 13 = .sc (.bool x3)) (by simp [ht']) ?_
    clear f11 f12 b_b1 l_b1 ht' t'
    rintro t H n f13
    refine Stk.run 1 (fun t H n => t 4 = .sc (.bool x3)) (fun J hJ => ?_) ?_
    · simp [-splice, f13]
      exact hJ _ _ _ (by simp [-splice, f13])
    clear f13
    rintro t H n f4
    refine Stk.on ?_
    refine Stk.rt ?_
    have hq := Option.some.inj h; subst hq
    exact (hr _ _ _ (.sc (.bool x3)) ([]) (by simp [f4]) (.inr (.inr (.free (rfl))))).1
end Go.Proofs.Ytfbkgjmpadknfaa.M
