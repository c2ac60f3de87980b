/-
  For AstSame: texts of the road to it, 14 of 16.
-/
import Derived.Test.YtappiofmkoelnaaGreatDoorKAstSame12
section
namespace Go.Proofs.YtappiofmkoelnaaGreatDoor.M
attribute [-simp] Go.Proofs.YtappiofmkoelnaaGreatDoorW.Ah.splice
open Go.Proofs.YtappiofmkoelnaaGreatDoorW.Ah Go.Proofs.YtappiofmkoelnaaGreatDoor
set_option linter.unusedVariables false
set_option linter.unusedSimpArgs false
set_option maxRecDepth 8000
attribute [local simp] T.t3 T.t4 T.t9 T.t22 T.t23 T.t26 T.t28 T.t30 T.t31 T.t33 T.t34 T.t36 T.t37 T.t39 T.t68 T.t72 T.t75 T.t77 T.t81 T.t83 List.range List.range.loop
attribute [-simp] appendAV fillAV
@[simp] abbrev Q6_1 (a0 : AFun) (a1 : AFun) (b1 : Nat) (b2 : Nat) (t : Nat → AV) (H : Mem) (n : Nat) : Prop := t 2 = .own b1 0 ∧ t 3 = .own b2 0 ∧ H b1 = some (.cells (c77 a0) 77) ∧ b1 < n ∧ H b2 = some (.cells (c77 a1) 77) ∧ b2 < n ∧ b1 ≠ b2
theorem ok_R04_sameFun (F : Nat) (a0 : AFun) (a1 : AFun) (r : Bool) (h : R04_sameFun F a0 a1 = some r) : RunF Tryz.prog T.T 86 [.agg (c77 a0), .agg (c77 a1)] (.sc (.bool r)) := by
  rw [R04_sameFun] at h
  refine RunF.z Tryz.func86 rfl rfl rfl rfl rfl (fun C hr => ?_)
  refine gn (fun t H n => t 0 = .agg (c77 a0) ∧ t 1 = .agg (c77 a1)) ⟨by simp, by simp⟩ fun t H n q => ?_
  apply eY 2; simp [q]
  refine gn (fun t H n => t 0 = .agg (c77 a0) ∧ t 1 = .agg (c77 a1)) (by simp [q]) fun t H n q => ?_
  refine Stk.om (mop_box T.t77 (cs := c77 a0) (by show partOk (t 0) = true; rw [q.1]; rfl) (by show cellsOf (t 0) = _; rw [q.1]; rfl)) (by simp [q]) rfl (fun t' ht' => ?_)
  refine gn (fun t H n => ∃ b1, t 1 = .agg (c77 a1) ∧ t 2 = .own b1 0 ∧ H b1 = some (.cells (c77 a0) 77) ∧ b1 < n) ⟨n, j2 (by simp [ht', q]) ⟨upd_same _ _ _, Nat.lt_succ_self _⟩⟩ fun t H n ⟨b1, q⟩ => ?_
  refine Stk.om (mop_box T.t77 (cs := c77 a1) (by show partOk (t 1) = true; rw [q.1]; rfl) (by show cellsOf (t 1) = _; rw [q.1]; rfl)) (by simp [q]) rfl (fun t' ht' => ?_)
  refine gn (fun t H n => ∃ b2, t 2 = .own b1 0 ∧ t 3 = .own b2 0 ∧ H b1 = some (.cells (c77 a0) 77) ∧ b1 < n ∧ H b2 = some (.cells (c77 a1) 77) ∧ b2 < n ∧ b1 ≠ b2) ⟨n, j2 (by simp [ht', q]) ⟨(upd_ne _ _ (Nat.ne_of_lt q.2.2.2)).trans q.2.2.1, Nat.lt_succ_of_lt q.2.2.2, upd_same _ _ _, Nat.lt_succ_self _, Nat.ne_of_lt q.2.2.2⟩⟩ fun t H n ⟨b2, q⟩ => ?_
  apply eY 11; simp [q, ld_77_2_9]
  refine Stk.gd 8 11 19 (fun z => .sc (.bool (z || ((a0.Params.length : Int) != (a1.Params.length : Int))))) (w := (!(a0.Name.toList == a1.Name.toList))) (by simp [q, ld_77_2_9]) (by simp [q, ld_77_2_9, ld_77_3_75]) (by simp [q, ld_77_2_9, ld_77_3_75]) ?_; simp [q, ld_77_2_9]
  apply eY 1; simp [q, ld_77_2_9]
  refine gn (fun t H n => Q6_1 a0 a1 b1 b2 t H n ∧ t 20 = .sc (.bool ((!(a0.Name.toList == a1.Name.toList)) || ((a0.Params.length : Int) != (a1.Params.length : Int))))) (by simp [q, ld_77_2_9]) fun t H n q => ?_
  obtain ⟨K1, hK1, h⟩ := jnd h
  refine Stk.jo 7 (fun t H n => ∃ v3 : Bool, K1 v3 = some r ∧ t 2 = .own b1 0 ∧ t 3 = .own b2 0 ∧ t 27 = .sc (.bool v3) ∧ H b1 = some (.cells (c77 a0) 77) ∧ b1 < n ∧ H b2 = some (.cells (c77 a1) 77) ∧ b2 < n ∧ b1 ≠ b2) (fun J1 hJ1 => ?_) ?_
  · rcases Bool.eq_false_or_eq_true ((!(a0.Name.toList == a1.Name.toList)) || ((a0.Params.length : Int) != (a1.Params.length : Int))) with hb1 | hb1
    · obtain ⟨⟨f2, f3, b_b1, l_b1, b_b2, l_b2, d_b1_b2⟩, f20⟩ := q
      rw [hb1] at f20
      replace h := cT hb1 h
      apply eY 8; simp [f2, f3, f20, b_b1, b_b2]
      exact l0 (hJ1 _ _ _ ⟨true, h, by and_intros <;> first | assumption | simp [f2, f3, f20, b_b1, b_b2]⟩)
    · obtain ⟨⟨f2, f3, b_b1, l_b1, b_b2, l_b2, d_b1_b2⟩, f20⟩ := q
      rw [hb1] at f20
      replace h := cF hb1 h
      obtain ⟨x4, hx4, h⟩ := bnd h
      apply eY 4; simp [f2, f3, f20, b_b1, b_b2, ld_77_4_26]
      refine cw (ok_R04_SameType F _ _ _ hx4) (by simp [f2, f3, f20, b_b1, b_b2, ld_77_4_26]) rfl rfl (by simp [f2, f3, f20, b_b1, b_b2, ld_77_4_26]) (.cons (.free (fr26 _)) (.cons (.free (fr26 _)) (.nil))) rfl ?_
      rintro _ rfl
      apply eY 3; simp [f2, f3, f20, b_b1, b_b2, ld_77_4_26]
      exact l0 (hJ1 _ _ _ ⟨(!x4), h, by and_intros <;> first | assumption | simp [f2, f3, f20, b_b1, b_b2, ld_77_4_26]⟩)
  clear q h
  rintro t H n ⟨v3, h, q⟩
  subst hK1
  apply eY 1; simp [q]
  refine gn (fun t H n => Q6_1 a0 a1 b1 b2 t H n ∧ t 28 = .sc (.bool v3)) (by simp [q]) fun t H n q => ?_
  obtain ⟨K2, hK2, h⟩ := jnd h
  refine Stk.jo 7 (fun t H n => ∃ v5 : Bool, K2 v5 = some r ∧ t 2 = .own b1 0 ∧ t 3 = .own b2 0 ∧ t 35 = .sc (.bool v5) ∧ H b1 = some (.cells (c77 a0) 77) ∧ b1 < n ∧ H b2 = some (.cells (c77 a1) 77) ∧ b2 < n ∧ b1 ≠ b2) (fun J2 hJ2 => ?_) ?_
  · rcases Bool.eq_false_or_eq_true v3 with hb2 | hb2
    · obtain ⟨⟨f2, f3, b_b1, l_b1, b_b2, l_b2, d_b1_b2⟩, f28⟩ := q
      rw [hb2] at f28
      replace h := cT hb2 h
      apply eY 8; simp [f2, f3, f28, b_b1, b_b2]
      exact l0 (hJ2 _ _ _ ⟨true, h, by and_intros <;> first | assumption | simp [f2, f3, f28, b_b1, b_b2]⟩)
    · obtain ⟨⟨f2, f3, b_b1, l_b1, b_b2, l_b2, d_b1_b2⟩, f28⟩ := q
      rw [hb2] at f28
      replace h := cF hb2 h
      obtain ⟨x6, hx6, h⟩ := bnd h
      apply eY 4; simp [f2, f3, f28, b_b1, b_b2, ld_77_7_33]
      refine cw (ok_R04_SameExpr F _ _ _ hx6) (by simp [f2, f3, f28, b_b1, b_b2, ld_77_7_33]) rfl rfl (by simp [f2, f3, f28, b_b1, b_b2, ld_77_7_33]) (.cons (.free (fr33 _)) (.cons (.free (fr33 _)) (.nil))) rfl ?_
      rintro _ rfl
      apply eY 3; simp [f2, f3, f28, b_b1, b_b2, ld_77_7_33]
      exact l0 (hJ2 _ _ _ ⟨(!x6), h, by and_intros <;> first | assumption | simp [f2, f3, f28, b_b1, b_b2, ld_77_7_33]⟩)
  clear q h
  rintro t H n ⟨v5, h, q⟩
  subst hK2
  apply eY 1; simp [q]
  refine cd v5 (by simp [q]) (fun hb7 => ?_) (fun hb7 => ?_)
  ·have h := cT hb7 h
   apply eY 5; simp [q]
   obtain rfl := sj h
   exact (hF hr (by simp [q]) rfl).1
  ·have h := cF hb7 h
   apply eY 7; simp [q]
   refine gn (fun t H n => Q6_1 a0 a1 b1 b2 t H n ∧ t 5 = .sc (.int .i64 0)) (by simp [q]) fun t H n q => ?_
   refine Stk.lo (fun μ t H n => ∃ v8 : Int, R04_sameFun_L0 F a0 a1 μ v8 = some r ∧ t 2 = .own b1 0 ∧ t 3 = .own b2 0 ∧ t 5 = .sc (.int .i64 v8) ∧ H b1 = some (.cells (c77 a0) 77) ∧ b1 < n ∧ H b2 = some (.cells (c77 a1) 77) ∧ b2 < n ∧ b1 ≠ b2) F ⟨0, h, q.1.1, q.1.2.1, q.2, q.1.2.2.1, q.1.2.2.2.1, q.1.2.2.2.2.1, q.1.2.2.2.2.2.1, q.1.2.2.2.2.2.2⟩ ?_
   clear q h
   rintro J3 hJ3 μ t H n ⟨v8, h, q⟩
   cases μ with
   | zero => exact absurd h (by simp [R04_sameFun_L0])
   | succ μ =>
   rw [R04_sameFun_L0] at h
   apply eY 9; simp [q, ld_77_3_75]
   refine cd (decide (v8 < (a0.Params.length : Int))) (by simp [q, ld_77_3_75]) (fun hb10 => ?_) (fun hb10 => ?_)
   ·have h := cT hb10 h
    apply eY 4; simp [q, ld_77_3_75]
    refine gn (fun t H n => Q6_1 a0 a1 b1 b2 t H n ∧ t 5 = .sc (.int .i64 v8) ∧ t 40 = .sc (.bool (decide (v8 < (a0.Params.length : Int))))) (by simp [q, ld_77_3_75]) fun t H n q => ?_
    obtain ⟨n0, hn0⟩ : ∃ m, m = n := ⟨n, rfl⟩
    have ln0 : n0 ≤ n := Nat.le_of_eq hn0
    refine Stk.rgD [.rd [], .rd [b1], .rd [], .rd [], .rd [], .rd [], .rd [b2], .rd [], .rd [], .rd [], .rd [], .rd []] none (by kernel_rfl) (by rfl) rfl (by simp [below, hn0, q, hn0]) rfl ?_
    obtain ⟨x11, hx11, h⟩ := bnd h
    obtain ⟨i0x11, i1x11, i2x11, _⟩ := idx_ok hx11
    have ex11_0_81 : partOf T.T 81 (encs c81 a0.Params) (v8.toNat * 4) = some (.agg (c81 x11)) := (part_elem0 (e := c81) (z := 4) (ty := 81) T.t81 (by decide) (by decide) hx11 0 (by decide)).trans (ld_81_0_81 _)
    obtain ⟨x12, hx12, h⟩ := bnd h
    obtain ⟨i0x12, i1x12, i2x12, _⟩ := idx_ok hx12
    have ex12_0_81 : partOf T.T 81 (encs c81 a1.Params) (v8.toNat * 4) = some (.agg (c81 x12)) := (part_elem0 (e := c81) (z := 4) (ty := 81) T.t81 (by decide) (by decide) hx12 0 (by decide)).trans (ld_81_0_81 _)
    obtain ⟨x13, hx13, h⟩ := bnd h
    apply eY 10; simp [q, ld_77_3_75, i0x11, i1x11, pd81, ex11_0_81, i0x12, i1x12, ex12_0_81]
    refine cx (ok_R04_sameParam F _ _ _ hx13) rfl rfl (by simp [q, ld_77_3_75, i0x11, i1x11, pd81, ex11_0_81, i0x12, i1x12, ex12_0_81]) rfl rfl (by simp [q, ld_77_3_75, i0x11, i1x11, pd81, ex11_0_81, i0x12, i1x12, ex12_0_81]) (.cons (.free (fr81 _)) (.cons (.free (fr81 _)) (.nil))) rfl ?_
    rintro _ rfl
    apply eY 2; simp [q, ld_77_3_75, i0x11, i1x11, pd81, ex11_0_81, i0x12, i1x12, ex12_0_81]
    refine cd (!x13) (by simp [q, ld_77_3_75, i0x11, i1x11, pd81, ex11_0_81, i0x12, i1x12, ex12_0_81]) (fun hb14 => ?_) (fun hb14 => ?_)
    ·have h := cT hb14 h
     apply eY 5; simp [q, ld_77_3_75, i0x11, i1x11, pd81, ex11_0_81, i0x12, i1x12, ex12_0_81]
     obtain rfl := sj h
     exact (hF hr (by simp [q, ld_77_3_75, i0x11, i1x11, pd81, ex11_0_81, i0x12, i1x12, ex12_0_81]) rfl).1
    ·have h := cF hb14 h
     apply eY 7; simp [q, ld_77_3_75, i0x11, i1x11, pd81, ex11_0_81, i0x12, i1x12, ex12_0_81]
     exact lm (hJ3 _ _ _ _ ⟨(IntKind.i64.wrap (v8 + 1)), h, by simp [ln0, q, ld_77_3_75, i0x11, i1x11, pd81, ex11_0_81, i0x12, i1x12, ex12_0_81]⟩)
   ·have h := cF hb10 h
    refine Stk.ex rfl ?_
    apply eY 5; simp [q, ld_77_3_75]
    obtain rfl := sj h
    exact (hF hr (by simp [q, ld_77_3_75]) rfl).1
@[simp] abbrev Q6_2 (a0 : AProg) (a1 : AProg) (b1 : Nat) (b2 : Nat) (t : Nat → AV) (H : Mem) (n : Nat) : Prop := t 2 = .own b1 0 ∧ t 3 = .own b2 0 ∧ H b1 = some (.cells (c36 a0) 36) ∧ b1 < n ∧ H b2 = some (.cells (c36 a1) 36) ∧ b2 < n ∧ b1 ≠ b2
theorem ok_R04_Same (F : Nat) (a0 : AProg) (a1 : AProg) (r : Bool) (h : R04_Same F a0 a1 = some r) : RunF Tryz.prog T.T 33 [.agg (c36 a0), .agg (c36 a1)] (.sc (.bool r)) := by
  rw [R04_Same] at h
  refine RunF.z Tryz.func33 rfl rfl rfl rfl rfl (fun C hr => ?_)
  refine gn (fun t H n => t 0 = .agg (c36 a0) ∧ t 1 = .agg (c36 a1)) ⟨by simp, by simp⟩ fun t H n q => ?_
  apply eY 2; simp [q]
  refine gn (fun t H n => t 0 = .agg (c36 a0) ∧ t 1 = .agg (c36 a1)) (by simp [q]) fun t H n q => ?_
  refine Stk.om (mop_box T.t36 (cs := c36 a0) (by show partOk (t 0) = true; rw [q.1]; rfl) (by show cellsOf (t 0) = _; rw [q.1]; rfl)) (by simp [q]) rfl (fun t' ht' => ?_)
  refine gn (fun t H n => ∃ b1, t 1 = .agg (c36 a1) ∧ t 2 = .own b1 0 ∧ H b1 = some (.cells (c36 a0) 36) ∧ b1 < n) ⟨n, j2 (by simp [ht', q]) ⟨upd_same _ _ _, Nat.lt_succ_self _⟩⟩ fun t H n ⟨b1, q⟩ => ?_
  refine Stk.om (mop_box T.t36 (cs := c36 a1) (by show partOk (t 1) = true; rw [q.1]; rfl) (by show cellsOf (t 1) = _; rw [q.1]; rfl)) (by simp [q]) rfl (fun t' ht' => ?_)
  refine gn (fun t H n => ∃ b2, t 2 = .own b1 0 ∧ t 3 = .own b2 0 ∧ H b1 = some (.cells (c36 a0) 36) ∧ b1 < n ∧ H b2 = some (.cells (c36 a1) 36) ∧ b2 < n ∧ b1 ≠ b2) ⟨n, j2 (by simp [ht', q]) ⟨(upd_ne _ _ (Nat.ne_of_lt q.2.2.2)).trans q.2.2.1, Nat.lt_succ_of_lt q.2.2.2, upd_same _ _ _, Nat.lt_succ_self _, Nat.ne_of_lt q.2.2.2⟩⟩ fun t H n ⟨b2, q⟩ => ?_
  apply eY 13; simp [q, ld_36_0_22]
  refine Stk.gd 8 17 25 (fun z => .sc (.bool (z || ((a0.Funs.length : Int) != (a1.Funs.length : Int))))) (w := ((a0.Datas.length : Int) != (a1.Datas.length : Int))) (by simp [q, ld_36_0_22]) (by simp [q, ld_36_0_22, ld_36_1_23]) (by simp [q, ld_36_0_22, ld_36_1_23]) ?_; simp [q, ld_36_0_22]
  apply eY 1; simp [q, ld_36_0_22]
  refine Stk.gd 8 26 34 (fun z => .sc (.bool (z || ((a0.Hands.length : Int) != (a1.Hands.length : Int))))) (w := (((a0.Datas.length : Int) != (a1.Datas.length : Int)) || ((a0.Funs.length : Int) != (a1.Funs.length : Int)))) (by simp [q, ld_36_0_22]) (by simp [q, ld_36_0_22, ld_36_16_34]) (by simp [q, ld_36_0_22, ld_36_16_34]) ?_; simp [q, ld_36_0_22]
  apply eY 1; simp [q, ld_36_0_22]
  refine Stk.gd 6 35 41 (fun z => .sc (.bool (z || (a0.Queue != a1.Queue)))) (w := ((((a0.Datas.length : Int) != (a1.Datas.length : Int)) || ((a0.Funs.length : Int) != (a1.Funs.length : Int))) || ((a0.Hands.length : Int) != (a1.Hands.length : Int)))) (by simp [q, ld_36_0_22]) (by simp [q, ld_36_0_22, ld_36_2_3]) (by simp [q, ld_36_0_22, ld_36_2_3]) ?_; simp [q, ld_36_0_22]
  apply eY 1; simp [q, ld_36_0_22]
  refine Stk.gd 6 42 48 (fun z => .sc (.bool (z || (a0.Timers != a1.Timers)))) (w := (((((a0.Datas.length : Int) != (a1.Datas.length : Int)) || ((a0.Funs.length : Int) != (a1.Funs.length : Int))) || ((a0.Hands.length : Int) != (a1.Hands.length : Int))) || (a0.Queue != a1.Queue))) (by simp [q, ld_36_0_22]) (by simp [q, ld_36_0_22, ld_36_3_3]) (by simp [q, ld_36_0_22, ld_36_3_3]) ?_; simp [q, ld_36_0_22]
  apply eY 1; simp [q, ld_36_0_22]
  refine gn (fun t H n => Q6_2 a0 a1 b1 b2 t H n ∧ t 49 = .sc (.bool ((((((a0.Datas.length : Int) != (a1.Datas.length : Int)) || ((a0.Funs.length : Int) != (a1.Funs.length : Int))) || ((a0.Hands.length : Int) != (a1.Hands.length : Int))) || (a0.Queue != a1.Queue)) || (a0.Timers != a1.Timers)))) (by simp [q, ld_36_0_22]) fun t H n q => ?_
  obtain ⟨K1, hK1, h⟩ := jnd h
  refine Stk.jo 7 (fun t H n => ∃ v3 : Bool, K1 v3 = some r ∧ t 2 = .own b1 0 ∧ t 3 = .own b2 0 ∧ t 56 = .sc (.bool v3) ∧ H b1 = some (.cells (c36 a0) 36) ∧ b1 < n ∧ H b2 = some (.cells (c36 a1) 36) ∧ b2 < n ∧ b1 ≠ b2) (fun J1 hJ1 => ?_) ?_
  · rcases Bool.eq_false_or_eq_true ((((((a0.Datas.length : Int) != (a1.Datas.length : Int)) || ((a0.Funs.length : Int) != (a1.Funs.length : Int))) || ((a0.Hands.length : Int) != (a1.Hands.length : Int))) || (a0.Queue != a1.Queue)) || (a0.Timers != a1.Timers)) with hb1 | hb1
    · obtain ⟨⟨f2, f3, b_b1, l_b1, b_b2, l_b2, d_b1_b2⟩, f49⟩ := q
      rw [hb1] at f49
      replace h := cT hb1 h
      apply eY 8; simp [f2, f3, f49, b_b1, b_b2]
      exact l0 (hJ1 _ _ _ ⟨true, h, by and_intros <;> first | assumption | simp [f2, f3, f49, b_b1, b_b2]⟩)
    · obtain ⟨⟨f2, f3, b_b1, l_b1, b_b2, l_b2, d_b1_b2⟩, f49⟩ := q
      rw [hb1] at f49
      replace h := cF hb1 h
      obtain ⟨x4, hx4, h⟩ := bnd h
      apply eY 4; simp [f2, f3, f49, b_b1, b_b2, ld_36_4_26]
      refine cw (ok_R04_SameType F _ _ _ hx4) (by simp [f2, f3, f49, b_b1, b_b2, ld_36_4_26]) rfl rfl (by simp [f2, f3, f49, b_b1, b_b2, ld_36_4_26]) (.cons (.free (fr26 _)) (.cons (.free (fr26 _)) (.nil))) rfl ?_
      rintro _ rfl
      apply eY 3; simp [f2, f3, f49, b_b1, b_b2, ld_36_4_26]
      exact l0 (hJ1 _ _ _ ⟨(!x4), h, by and_intros <;> first | assumption | simp [f2, f3, f49, b_b1, b_b2, ld_36_4_26]⟩)
  clear q h
  rintro t H n ⟨v3, h, q⟩
  subst hK1
  apply eY 1; simp [q]
  refine Stk.gd 6 57 63 (fun z => .sc (.bool (z || (a0.Cap != a1.Cap)))) (w := v3) (by simp [q]) (by simp [q, ld_36_7_3]) (by simp [q, ld_36_7_3]) ?_; simp [q]
  apply eY 1; simp [q]
  refine gn (fun t H n => Q6_2 a0 a1 b1 b2 t H n ∧ t 64 = .sc (.bool (v3 || (a0.Cap != a1.Cap)))) (by simp [q]) fun t H n q => ?_
  obtain ⟨K2, hK2, h⟩ := jnd h
  refine Stk.jo 7 (fun t H n => ∃ v5 : Bool, K2 v5 = some r ∧ t 2 = .own b1 0 ∧ t 3 = .own b2 0 ∧ t 71 = .sc (.bool v5) ∧ H b1 = some (.cells (c36 a0) 36) ∧ b1 < n ∧ H b2 = some (.cells (c36 a1) 36) ∧ b2 < n ∧ b1 ≠ b2) (fun J2 hJ2 => ?_) ?_
  · rcases Bool.eq_false_or_eq_true (v3 || (a0.Cap != a1.Cap)) with hb2 | hb2
    · obtain ⟨⟨f2, f3, b_b1, l_b1, b_b2, l_b2, d_b1_b2⟩, f64⟩ := q
      rw [hb2] at f64
      replace h := cT hb2 h
      apply eY 8; simp [f2, f3, f64, b_b1, b_b2]
      exact l0 (hJ2 _ _ _ ⟨true, h, by and_intros <;> first | assumption | simp [f2, f3, f64, b_b1, b_b2]⟩)
    · obtain ⟨⟨f2, f3, b_b1, l_b1, b_b2, l_b2, d_b1_b2⟩, f64⟩ := q
      rw [hb2] at f64
      replace h := cF hb2 h
      obtain ⟨x6, hx6, h⟩ := bnd h
      apply eY 4; simp [f2, f3, f64, b_b1, b_b2, ld_36_8_33]
      refine cw (ok_R04_SameExpr F _ _ _ hx6) (by simp [f2, f3, f64, b_b1, b_b2, ld_36_8_33]) rfl rfl (by simp [f2, f3, f64, b_b1, b_b2, ld_36_8_33]) (.cons (.free (fr33 _)) (.cons (.free (fr33 _)) (.nil))) rfl ?_
      rintro _ rfl
      apply eY 3; simp [f2, f3, f64, b_b1, b_b2, ld_36_8_33]
      exact l0 (hJ2 _ _ _ ⟨(!x6), h, by and_intros <;> first | assumption | simp [f2, f3, f64, b_b1, b_b2, ld_36_8_33]⟩)
  clear q h
  rintro t H n ⟨v5, h, q⟩
  subst hK2
  apply eY 1; simp [q]
  refine cd v5 (by simp [q]) (fun hb7 => ?_) (fun hb7 => ?_)
  ·have h := cT hb7 h
   apply eY 5; simp [q]
   obtain rfl := sj h
   exact (hF hr (by simp [q]) rfl).1
  ·have h := cF hb7 h
   apply eY 6; simp [q]
   obtain ⟨K3, hK3, h⟩ := jnd h
   refine Stk.jn (fun t H n => K3 () = some r ∧ t 2 = .own b1 0 ∧ t 3 = .own b2 0 ∧ H b1 = some (.cells (c36 a0) 36) ∧ b1 < n ∧ H b2 = some (.cells (c36 a1) 36) ∧ b2 < n ∧ b1 ≠ b2) trivial (fun J3 hJ3 => ?_) ?_
   · skip
     apply eY 1; simp [q]
     refine gn (fun t H n => Q6_2 a0 a1 b1 b2 t H n ∧ t 5 = .sc (.int .i64 0)) (by simp [q]) fun t H n q => ?_
     refine Stk.lo (fun μ t H n => ∃ v8 : Int, R04_Same_L0 F a0 a1 K3 μ v8 = some r ∧ t 2 = .own b1 0 ∧ t 3 = .own b2 0 ∧ t 5 = .sc (.int .i64 v8) ∧ H b1 = some (.cells (c36 a0) 36) ∧ b1 < n ∧ H b2 = some (.cells (c36 a1) 36) ∧ b2 < n ∧ b1 ≠ b2) F ⟨0, h, q.1.1, q.1.2.1, q.2, q.1.2.2.1, q.1.2.2.2.1, q.1.2.2.2.2.1, q.1.2.2.2.2.2.1, q.1.2.2.2.2.2.2⟩ ?_
     clear q h
     rintro J4 hJ4 μ t H n ⟨v8, h, q⟩
     cases μ with
     | zero => exact absurd h (by simp [R04_Same_L0])
     | succ μ =>
     rw [R04_Same_L0] at h
     apply eY 9; simp [q, ld_36_0_22]
     refine cd (decide (v8 < (a0.Datas.length : Int))) (by simp [q, ld_36_0_22]) (fun hb10 => ?_) (fun hb10 => ?_)
     ·have h := cT hb10 h
      apply eY 4; simp [q, ld_36_0_22]
      refine gn (fun t H n => Q6_2 a0 a1 b1 b2 t H n ∧ t 5 = .sc (.int .i64 v8) ∧ t 76 = .sc (.bool (decide (v8 < (a0.Datas.length : Int))))) (by simp [q, ld_36_0_22]) fun t H n q => ?_
      obtain ⟨n0, hn0⟩ : ∃ m, m = n := ⟨n, rfl⟩
      have ln0 : n0 ≤ n := Nat.le_of_eq hn0
      refine Stk.rgD [.rd [], .rd [b1], .rd [], .rd [], .rd [], .rd [], .rd [b2], .rd [], .rd [], .rd [], .rd [], .rd []] none (by kernel_rfl) (by rfl) rfl (by simp [below, hn0, q, hn0]) rfl ?_
      obtain ⟨x11, hx11, h⟩ := bnd h
      obtain ⟨i0x11, i1x11, i2x11, _⟩ := idx_ok hx11
      have ex11_0_72 : partOf T.T 72 (encs c72 a0.Datas) (v8.toNat * 4) = some (.agg (c72 x11)) := (part_elem0 (e := c72) (z := 4) (ty := 72) T.t72 (by decide) (by decide) hx11 0 (by decide)).trans (ld_72_0_72 _)
      obtain ⟨x12, hx12, h⟩ := bnd h
      obtain ⟨i0x12, i1x12, i2x12, _⟩ := idx_ok hx12
      have ex12_0_72 : partOf T.T 72 (encs c72 a1.Datas) (v8.toNat * 4) = some (.agg (c72 x12)) := (part_elem0 (e := c72) (z := 4) (ty := 72) T.t72 (by decide) (by decide) hx12 0 (by decide)).trans (ld_72_0_72 _)
      obtain ⟨x13, hx13, h⟩ := bnd h
      apply eY 10; simp [q, ld_36_0_22, i0x11, i1x11, pd72, ex11_0_72, i0x12, i1x12, ex12_0_72]
      refine cx (ok_R04_sameData F _ _ _ hx13) rfl rfl (by simp [q, ld_36_0_22, i0x11, i1x11, pd72, ex11_0_72, i0x12, i1x12, ex12_0_72]) rfl rfl (by simp [q, ld_36_0_22, i0x11, i1x11, pd72, ex11_0_72, i0x12, i1x12, ex12_0_72]) (.cons (.free (fr72 _)) (.cons (.free (fr72 _)) (.nil))) rfl ?_
      rintro _ rfl
      apply eY 2; simp [q, ld_36_0_22, i0x11, i1x11, pd72, ex11_0_72, i0x12, i1x12, ex12_0_72]
      refine cd (!x13) (by simp [q, ld_36_0_22, i0x11, i1x11, pd72, ex11_0_72, i0x12, i1x12, ex12_0_72]) (fun hb14 => ?_) (fun hb14 => ?_)
      ·have h := cT hb14 h
       apply eY 5; simp [q, ld_36_0_22, i0x11, i1x11, pd72, ex11_0_72, i0x12, i1x12, ex12_0_72]
       obtain rfl := sj h
       exact (hF hr (by simp [q, ld_36_0_22, i0x11, i1x11, pd72, ex11_0_72, i0x12, i1x12, ex12_0_72]) rfl).1
      ·have h := cF hb14 h
       apply eY 7; simp [q, ld_36_0_22, i0x11, i1x11, pd72, ex11_0_72, i0x12, i1x12, ex12_0_72]
       exact lm (hJ4 _ _ _ _ ⟨(IntKind.i64.wrap (v8 + 1)), h, by simp [ln0, q, ld_36_0_22, i0x11, i1x11, pd72, ex11_0_72, i0x12, i1x12, ex12_0_72]⟩)
     ·have h := cF hb10 h
      refine Stk.ex rfl ?_
      exact l0 (hJ3 _ _ _ ⟨h, by simp [q, ld_36_0_22]⟩)
   clear q h
   rintro t H n ⟨h, q⟩
   subst hK3
   apply eY 5; simp [q]
   obtain ⟨K5, hK5, h⟩ := jnd h
   refine Stk.jn (fun t H n => K5 () = some r ∧ t 2 = .own b1 0 ∧ t 3 = .own b2 0 ∧ H b1 = some (.cells (c36 a0) 36) ∧ b1 < n ∧ H b2 = some (.cells (c36 a1) 36) ∧ b2 < n ∧ b1 ≠ b2) trivial (fun J5 hJ5 => ?_) ?_
   · skip
     apply eY 1; simp [q]
     refine gn (fun t H n => Q6_2 a0 a1 b1 b2 t H n ∧ t 6 = .sc (.int .i64 0)) (by simp [q]) fun t H n q => ?_
     refine Stk.lo (fun μ t H n => ∃ v15 : Int, R04_Same_L1 F a0 a1 K5 μ v15 = some r ∧ t 2 = .own b1 0 ∧ t 3 = .own b2 0 ∧ t 6 = .sc (.int .i64 v15) ∧ H b1 = some (.cells (c36 a0) 36) ∧ b1 < n ∧ H b2 = some (.cells (c36 a1) 36) ∧ b2 < n ∧ b1 ≠ b2) F ⟨0, h, q.1.1, q.1.2.1, q.2, q.1.2.2.1, q.1.2.2.2.1, q.1.2.2.2.2.1, q.1.2.2.2.2.2.1, q.1.2.2.2.2.2.2⟩ ?_
     clear q h
     rintro J6 hJ6 μ t H n ⟨v15, h, q⟩
     cases μ with
     | zero => exact absurd h (by simp [R04_Same_L1])
     | succ μ =>
     rw [R04_Same_L1] at h
     apply eY 9; simp [q, ld_36_1_23]
     refine cd (decide (v15 < (a0.Funs.length : Int))) (by simp [q, ld_36_1_23]) (fun hb17 => ?_) (fun hb17 => ?_)
     ·have h := cT hb17 h
      apply eY 4; simp [q, ld_36_1_23]
      refine gn (fun t H n => Q6_2 a0 a1 b1 b2 t H n ∧ t 6 = .sc (.int .i64 v15) ∧ t 95 = .sc (.bool (decide (v15 < (a0.Funs.length : Int))))) (by simp [q, ld_36_1_23]) fun t H n q => ?_
      obtain ⟨n0, hn0⟩ : ∃ m, m = n := ⟨n, rfl⟩
      have ln0 : n0 ≤ n := Nat.le_of_eq hn0
      refine Stk.rgD [.rd [], .rd [b1], .rd [], .rd [], .rd [], .rd [], .rd [b2], .rd [], .rd [], .rd [], .rd [], .rd []] none (by kernel_rfl) (by rfl) rfl (by simp [below, hn0, q, hn0]) rfl ?_
      obtain ⟨x18, hx18, h⟩ := bnd h
      obtain ⟨i0x18, i1x18, i2x18, _⟩ := idx_ok hx18
      have ex18_0_77 : partOf T.T 77 (encs c77 a0.Funs) (v15.toNat * 15) = some (.agg (c77 x18)) := (part_elem0 (e := c77) (z := 15) (ty := 77) T.t77 (by decide) (by decide) hx18 0 (by decide)).trans (ld_77_0_77 _)
      obtain ⟨x19, hx19, h⟩ := bnd h
      obtain ⟨i0x19, i1x19, i2x19, _⟩ := idx_ok hx19
      have ex19_0_77 : partOf T.T 77 (encs c77 a1.Funs) (v15.toNat * 15) = some (.agg (c77 x19)) := (part_elem0 (e := c77) (z := 15) (ty := 77) T.t77 (by decide) (by decide) hx19 0 (by decide)).trans (ld_77_0_77 _)
      obtain ⟨x20, hx20, h⟩ := bnd h
      apply eY 10; simp [q, ld_36_1_23, i0x18, i1x18, pd77, ex18_0_77, i0x19, i1x19, ex19_0_77]
      refine cx (ok_R04_sameFun F _ _ _ hx20) rfl rfl (by simp [q, ld_36_1_23, i0x18, i1x18, pd77, ex18_0_77, i0x19, i1x19, ex19_0_77]) rfl rfl (by simp [q, ld_36_1_23, i0x18, i1x18, pd77, ex18_0_77, i0x19, i1x19, ex19_0_77]) (.cons (.free (fr77 _)) (.cons (.free (fr77 _)) (.nil))) rfl ?_
      rintro _ rfl
      apply eY 2; simp [q, ld_36_1_23, i0x18, i1x18, pd77, ex18_0_77, i0x19, i1x19, ex19_0_77]
      refine cd (!x20) (by simp [q, ld_36_1_23, i0x18, i1x18, pd77, ex18_0_77, i0x19, i1x19, ex19_0_77]) (fun hb21 => ?_) (fun hb21 => ?_)
      ·have h := cT hb21 h
       apply eY 5; simp [q, ld_36_1_23, i0x18, i1x18, pd77, ex18_0_77, i0x19, i1x19, ex19_0_77]
       obtain rfl := sj h
       exact (hF hr (by simp [q, ld_36_1_23, i0x18, i1x18, pd77, ex18_0_77, i0x19, i1x19, ex19_0_77]) rfl).1
      ·have h := cF hb21 h
       apply eY 7; simp [q, ld_36_1_23, i0x18, i1x18, pd77, ex18_0_77, i0x19, i1x19, ex19_0_77]
       exact lm (hJ6 _ _ _ _ ⟨(IntKind.i64.wrap (v15 + 1)), h, by simp [ln0, q, ld_36_1_23, i0x18, i1x18, pd77, ex18_0_77, i0x19, i1x19, ex19_0_77]⟩)
     ·have h := cF hb17 h
      refine Stk.ex rfl ?_
      exact l0 (hJ5 _ _ _ ⟨h, by simp [q, ld_36_1_23]⟩)
   clear q h
   rintro t H n ⟨h, q⟩
   subst hK5
   apply eY 6; simp [q]
   refine gn (fun t H n => Q6_2 a0 a1 b1 b2 t H n ∧ t 7 = .sc (.int .i64 0)) (by simp [q]) fun t H n q => ?_
   refine Stk.lo (fun μ t H n => ∃ v22 : Int, R04_Same_L2 F a0 a1 μ v22 = some r ∧ t 2 = .own b1 0 ∧ t 3 = .own b2 0 ∧ t 7 = .sc (.int .i64 v22) ∧ H b1 = some (.cells (c36 a0) 36) ∧ b1 < n ∧ H b2 = some (.cells (c36 a1) 36) ∧ b2 < n ∧ b1 ≠ b2) F ⟨0, h, q.1.1, q.1.2.1, q.2, q.1.2.2.1, q.1.2.2.2.1, q.1.2.2.2.2.1, q.1.2.2.2.2.2.1, q.1.2.2.2.2.2.2⟩ ?_
   clear q h
   rintro J7 hJ7 μ t H n ⟨v22, h, q⟩
   cases μ with
   | zero => exact absurd h (by simp [R04_Same_L2])
   | succ μ =>
   rw [R04_Same_L2] at h
   apply eY 9; simp [q, ld_36_16_34]
   refine cd (decide (v22 < (a0.Hands.length : Int))) (by simp [q, ld_36_16_34]) (fun hb24 => ?_) (fun hb24 => ?_)
   ·have h := cT hb24 h
    obtain ⟨x25, hx25, h⟩ := bnd h
    obtain ⟨i0x25, i1x25, i2x25, _⟩ := idx_ok hx25
    have ex25_0_83 : partOf T.T 83 (encs c83 a0.Hands) (v22.toNat * 16) = some (.agg (c83 x25)) := (part_elem0 (e := c83) (z := 16) (ty := 83) T.t83 (by decide) (by decide) hx25 0 (by decide)).trans (ld_83_0_83 _)
    apply eY 10; simp [q, ld_36_16_34, i0x25, i1x25, pd83, ex25_0_83]
    refine Stk.oz T.t83 (cs := c83 (AHand.mk (APos.mk 0 0) ⟨#[]⟩ (AParam.mk ⟨#[]⟩ (AType.mk 0 ⟨#[]⟩ [])) 0 (AExpr.mk 0 (APos.mk 0 0) 0 [] ⟨#[]⟩ [] []))) (by rfl) rfl (by simp [q, ld_36_16_34, i0x25, i1x25, pd83, ex25_0_83]) rfl (fun t' ht' => ?_)
    refine gn (fun t H n => ∃ b26, Q6_2 a0 a1 b1 b2 t H n ∧ t 7 = .sc (.int .i64 v22) ∧ t 8 = .own b26 0 ∧ t 121 = .agg (c83 x25) ∧ H b26 = some (.cells (c83 (AHand.mk (APos.mk 0 0) ⟨#[]⟩ (AParam.mk ⟨#[]⟩ (AType.mk 0 ⟨#[]⟩ [])) 0 (AExpr.mk 0 (APos.mk 0 0) 0 [] ⟨#[]⟩ [] []))) 83) ∧ b26 < n ∧ b1 ≠ b26 ∧ b2 ≠ b26) ⟨n, ⟨by simp [ht', q, ld_36_16_34, i0x25, i1x25, pd83, ex25_0_83], by simp [ht', q, ld_36_16_34, i0x25, i1x25, pd83, ex25_0_83], (upd_ne _ _ (Nat.ne_of_lt q.2.2.2.2.1)).trans q.2.2.2.1, Nat.lt_succ_of_lt q.2.2.2.2.1, (upd_ne _ _ (Nat.ne_of_lt q.2.2.2.2.2.2.1)).trans q.2.2.2.2.2.1, Nat.lt_succ_of_lt q.2.2.2.2.2.2.1, q.2.2.2.2.2.2.2⟩, j3 (by simp [ht', q, ld_36_16_34, i0x25, i1x25, pd83, ex25_0_83]) ⟨upd_same _ _ _, Nat.lt_succ_self _, Nat.ne_of_lt q.2.2.2.2.1, Nat.ne_of_lt q.2.2.2.2.2.2.1⟩⟩ fun t H n ⟨b26, ⟨f2, f3, b_b1, l_b1, b_b2, l_b2, d_b1_b2⟩, f7, f8, f121, b_b26, l_b26, d_b1_b26, d_b2_b26⟩ => ?_
    refine Stk.om (mop_store (z := 16) rfl f8 b_b26 f121 (len83 _) (by rw [len83]; decide) (ok83 _) (st_83_0_83 _ _)) (by simp [f2, f3, f7, f8, f121]) rfl (fun t' ht' => ?_)
    refine gn (fun t H n => Q6_2 a0 a1 b1 b2 t H n ∧ t 7 = .sc (.int .i64 v22) ∧ t 8 = .own b26 0 ∧ H b26 = some (.cells (c83 x25) 83) ∧ b26 < n ∧ b1 ≠ b26 ∧ b2 ≠ b26) ⟨⟨by simp [ht', f2], by simp [ht', f3], (upd_ne _ _ d_b1_b26).trans b_b1, l_b1, (upd_ne _ _ d_b2_b26).trans b_b2, l_b2, d_b1_b2⟩, j2 (by simp [ht', f7, f8]) ⟨upd_same _ _ _, l_b26, d_b1_b26, d_b2_b26⟩⟩ fun t H n q => ?_
    obtain ⟨x27, hx27, h⟩ := bnd h
    obtain ⟨i0x27, i1x27, i2x27, _⟩ := idx_ok hx27
    have ex27_0_83 : partOf T.T 83 (encs c83 a1.Hands) (v22.toNat * 16) = some (.agg (c83 x27)) := (part_elem0 (e := c83) (z := 16) (ty := 83) T.t83 (by decide) (by decide) hx27 0 (by decide)).trans (ld_83_0_83 _)
    apply eY 8; simp [q, ld_36_16_34, i0x27, i1x27, pd83, ex27_0_83]
    refine Stk.oz T.t83 (cs := c83 (AHand.mk (APos.mk 0 0) ⟨#[]⟩ (AParam.mk ⟨#[]⟩ (AType.mk 0 ⟨#[]⟩ [])) 0 (AExpr.mk 0 (APos.mk 0 0) 0 [] ⟨#[]⟩ [] []))) (by rfl) rfl (by simp [q, ld_36_16_34, i0x27, i1x27, pd83, ex27_0_83]) rfl (fun t' ht' => ?_)
    refine gn (fun t H n => ∃ b28, Q6_2 a0 a1 b1 b2 t H n ∧ t 7 = .sc (.int .i64 v22) ∧ t 8 = .own b26 0 ∧ t 9 = .own b28 0 ∧ t 126 = .agg (c83 x27) ∧ H b26 = some (.cells (c83 x25) 83) ∧ b26 < n ∧ H b28 = some (.cells (c83 (AHand.mk (APos.mk 0 0) ⟨#[]⟩ (AParam.mk ⟨#[]⟩ (AType.mk 0 ⟨#[]⟩ [])) 0 (AExpr.mk 0 (APos.mk 0 0) 0 [] ⟨#[]⟩ [] []))) 83) ∧ b28 < n ∧ b1 ≠ b26 ∧ b2 ≠ b26 ∧ b1 ≠ b28 ∧ b2 ≠ b28 ∧ b26 ≠ b28) ⟨n, ⟨by simp [ht', q, ld_36_16_34, i0x27, i1x27, pd83, ex27_0_83], by simp [ht', q, ld_36_16_34, i0x27, i1x27, pd83, ex27_0_83], (upd_ne _ _ (Nat.ne_of_lt q.1.2.2.2.1)).trans q.1.2.2.1, Nat.lt_succ_of_lt q.1.2.2.2.1, (upd_ne _ _ (Nat.ne_of_lt q.1.2.2.2.2.2.1)).trans q.1.2.2.2.2.1, Nat.lt_succ_of_lt q.1.2.2.2.2.2.1, q.1.2.2.2.2.2.2⟩, j4 (by simp [ht', q, ld_36_16_34, i0x27, i1x27, pd83, ex27_0_83]) ⟨(upd_ne _ _ (Nat.ne_of_lt q.2.2.2.2.1)).trans q.2.2.2.1, Nat.lt_succ_of_lt q.2.2.2.2.1, upd_same _ _ _, Nat.lt_succ_self _, q.2.2.2.2.2.1, q.2.2.2.2.2.2, Nat.ne_of_lt q.1.2.2.2.1, Nat.ne_of_lt q.1.2.2.2.2.2.1, Nat.ne_of_lt q.2.2.2.2.1⟩⟩ fun t H n ⟨b28, ⟨f2, f3, b_b1, l_b1, b_b2, l_b2, d_b1_b2⟩, f7, f8, f9, f126, b_b26, l_b26, b_b28, l_b28, d_b1_b26, d_b2_b26, d_b1_b28, d_b2_b28, d_b26_b28⟩ => ?_
    refine Stk.om (mop_store (z := 16) rfl f9 b_b28 f126 (len83 _) (by rw [len83]; decide) (ok83 _) (st_83_0_83 _ _)) (by simp [f2, f3, f7, f8, f9, f126]) rfl (fun t' ht' => ?_)
    refine gn (fun t H n => Q6_2 a0 a1 b1 b2 t H n ∧ t 7 = .sc (.int .i64 v22) ∧ t 8 = .own b26 0 ∧ t 9 = .own b28 0 ∧ H b26 = some (.cells (c83 x25) 83) ∧ b26 < n ∧ H b28 = some (.cells (c83 x27) 83) ∧ b28 < n ∧ b1 ≠ b26 ∧ b2 ≠ b26 ∧ b1 ≠ b28 ∧ b2 ≠ b28 ∧ b26 ≠ b28) ⟨⟨by simp [ht', f2], by simp [ht', f3], (upd_ne _ _ d_b1_b28).trans b_b1, l_b1, (upd_ne _ _ d_b2_b28).trans b_b2, l_b2, d_b1_b2⟩, j3 (by simp [ht', f7, f8, f9]) ⟨(upd_ne _ _ d_b26_b28).trans b_b26, l_b26, upd_same _ _ _, l_b28, d_b1_b26, d_b2_b26, d_b1_b28, d_b2_b28, d_b26_b28⟩⟩ fun t H n q => ?_
    apply eY 9; simp [q, ld_83_2_9]
    refine gn (fun t H n => Q6_2 a0 a1 b1 b2 t H n ∧ t 7 = .sc (.int .i64 v22) ∧ t 8 = .own b26 0 ∧ t 9 = .own b28 0 ∧ t 132 = .sc (.bool (!(x25.Name.toList == x27.Name.toList))) ∧ H b26 = some (.cells (c83 x25) 83) ∧ b26 < n ∧ H b28 = some (.cells (c83 x27) 83) ∧ b28 < n ∧ b1 ≠ b26 ∧ b2 ≠ b26 ∧ b1 ≠ b28 ∧ b2 ≠ b28 ∧ b26 ≠ b28) (by simp [q, ld_83_2_9]) fun t H n q => ?_
    obtain ⟨K8, hK8, h⟩ := jnd h
    refine Stk.jo 7 (fun t H n => ∃ v29 : Bool, K8 v29 = some r ∧ t 2 = .own b1 0 ∧ t 3 = .own b2 0 ∧ t 7 = .sc (.int .i64 v22) ∧ t 8 = .own b26 0 ∧ t 9 = .own b28 0 ∧ t 139 = .sc (.bool v29) ∧ H b1 = some (.cells (c36 a0) 36) ∧ b1 < n ∧ H b2 = some (.cells (c36 a1) 36) ∧ b2 < n ∧ H b26 = some (.cells (c83 x25) 83) ∧ b26 < n ∧ H b28 = some (.cells (c83 x27) 83) ∧ b28 < n ∧ b1 ≠ b2 ∧ b1 ≠ b26 ∧ b2 ≠ b26 ∧ b1 ≠ b28 ∧ b2 ≠ b28 ∧ b26 ≠ b28) (fun J8 hJ8 => ?_) ?_
    · rcases Bool.eq_false_or_eq_true (!(x25.Name.toList == x27.Name.toList)) with hb8 | hb8
      · obtain ⟨⟨f2, f3, b_b1, l_b1, b_b2, l_b2, d_b1_b2⟩, f7, f8, f9, f132, b_b26, l_b26, b_b28, l_b28, d_b1_b26, d_b2_b26, d_b1_b28, d_b2_b28, d_b26_b28⟩ := q
        rw [hb8] at f132
        replace h := cT hb8 h
        apply eY 8; simp [f2, f3, f7, f8, f9, f132, b_b1, b_b2, b_b26, b_b28]
        exact l0 (hJ8 _ _ _ ⟨true, h, by and_intros <;> first | assumption | simp [f2, f3, f7, f8, f9, f132, b_b1, b_b2, b_b26, b_b28]⟩)
      · obtain ⟨⟨f2, f3, b_b1, l_b1, b_b2, l_b2, d_b1_b2⟩, f7, f8, f9, f132, b_b26, l_b26, b_b28, l_b28, d_b1_b26, d_b2_b26, d_b1_b28, d_b2_b28, d_b26_b28⟩ := q
        rw [hb8] at f132
        replace h := cF hb8 h
        obtain ⟨x30, hx30, h⟩ := bnd h
        apply eY 4; simp [f2, f3, f7, f8, f9, f132, b_b1, b_b2, b_b26, b_b28, ld_83_3_81]
        refine cw (ok_R04_sameParam F _ _ _ hx30) (by simp [f2, f3, f7, f8, f9, f132, b_b1, b_b2, b_b26, b_b28, ld_83_3_81]) rfl rfl (by simp [f2, f3, f7, f8, f9, f132, b_b1, b_b2, b_b26, b_b28, ld_83_3_81]) (.cons (.free (fr81 _)) (.cons (.free (fr81 _)) (.nil))) rfl ?_
        rintro _ rfl
        apply eY 3; simp [f2, f3, f7, f8, f9, f132, b_b1, b_b2, b_b26, b_b28, ld_83_3_81]
        exact l0 (hJ8 _ _ _ ⟨(!x30), h, by and_intros <;> first | assumption | simp [f2, f3, f7, f8, f9, f132, b_b1, b_b2, b_b26, b_b28, ld_83_3_81]⟩)
    clear q h
    rintro t H n ⟨v29, h, q⟩
    subst hK8
    apply eY 1; simp [q]
    refine Stk.gd 6 140 146 (fun z => .sc (.bool (z || (x25.Cap != x27.Cap)))) (w := v29) (by simp [q]) (by simp [q, ld_83_7_3]) (by simp [q, ld_83_7_3]) ?_; simp [q]
    apply eY 1; simp [q]
    refine gn (fun t H n => Q6_2 a0 a1 b1 b2 t H n ∧ t 7 = .sc (.int .i64 v22) ∧ t 8 = .own b26 0 ∧ t 9 = .own b28 0 ∧ t 147 = .sc (.bool (v29 || (x25.Cap != x27.Cap))) ∧ H b26 = some (.cells (c83 x25) 83) ∧ b26 < n ∧ H b28 = some (.cells (c83 x27) 83) ∧ b28 < n ∧ b1 ≠ b26 ∧ b2 ≠ b26 ∧ b1 ≠ b28 ∧ b2 ≠ b28 ∧ b26 ≠ b28) (by simp [q]) fun t H n q => ?_
    obtain ⟨K9, hK9, h⟩ := jnd h
    refine Stk.jo 7 (fun t H n => ∃ v31 : Bool, K9 v31 = some r ∧ t 2 = .own b1 0 ∧ t 3 = .own b2 0 ∧ t 7 = .sc (.int .i64 v22) ∧ t 154 = .sc (.bool v31) ∧ H b1 = some (.cells (c36 a0) 36) ∧ b1 < n ∧ H b2 = some (.cells (c36 a1) 36) ∧ b2 < n ∧ b1 ≠ b2) (fun J9 hJ9 => ?_) ?_
    · rcases Bool.eq_false_or_eq_true (v29 || (x25.Cap != x27.Cap)) with hb9 | hb9
      · obtain ⟨⟨f2, f3, b_b1, l_b1, b_b2, l_b2, d_b1_b2⟩, f7, f8, f9, f147, b_b26, l_b26, b_b28, l_b28, d_b1_b26, d_b2_b26, d_b1_b28, d_b2_b28, d_b26_b28⟩ := q
        rw [hb9] at f147
        replace h := cT hb9 h
        apply eY 8; simp [f2, f3, f7, f8, f9, f147, b_b1, b_b2, b_b26, b_b28]
        exact l0 (hJ9 _ _ _ ⟨true, h, by and_intros <;> first | assumption | simp [f2, f3, f7, f8, f9, f147, b_b1, b_b2, b_b26, b_b28]⟩)
      · obtain ⟨⟨f2, f3, b_b1, l_b1, b_b2, l_b2, d_b1_b2⟩, f7, f8, f9, f147, b_b26, l_b26, b_b28, l_b28, d_b1_b26, d_b2_b26, d_b1_b28, d_b2_b28, d_b26_b28⟩ := q
        rw [hb9] at f147
        replace h := cF hb9 h
        obtain ⟨x32, hx32, h⟩ := bnd h
        apply eY 4; simp [f2, f3, f7, f8, f9, f147, b_b1, b_b2, b_b26, b_b28, ld_83_8_33]
        refine cw (ok_R04_SameExpr F _ _ _ hx32) (by simp [f2, f3, f7, f8, f9, f147, b_b1, b_b2, b_b26, b_b28, ld_83_8_33]) rfl rfl (by simp [f2, f3, f7, f8, f9, f147, b_b1, b_b2, b_b26, b_b28, ld_83_8_33]) (.cons (.free (fr33 _)) (.cons (.free (fr33 _)) (.nil))) rfl ?_
        rintro _ rfl
        apply eY 3; simp [f2, f3, f7, f8, f9, f147, b_b1, b_b2, b_b26, b_b28, ld_83_8_33]
        exact l0 (hJ9 _ _ _ ⟨(!x32), h, by and_intros <;> first | assumption | simp [f2, f3, f7, f8, f9, f147, b_b1, b_b2, b_b26, b_b28, ld_83_8_33]⟩)
    clear q h
    rintro t H n ⟨v31, h, q⟩
    subst hK9
    apply eY 1; simp [q]
    refine cd v31 (by simp [q]) (fun hb33 => ?_) (fun hb33 => ?_)
    ·have h := cT hb33 h
     apply eY 5; simp [q]
     obtain rfl := sj h
     exact (hF hr (by simp [q]) rfl).1
    ·have h := cF hb33 h
     apply eY 7; simp [q]
     exact lm (hJ7 _ _ _ _ ⟨(IntKind.i64.wrap (v22 + 1)), h, by simp [q]⟩)
   ·have h := cF hb24 h
    refine Stk.ex rfl ?_
    apply eY 5; simp [q, ld_36_16_34]
    obtain rfl := sj h
    exact (hF hr (by simp [q, ld_36_16_34]) rfl).1
@[simp] abbrev Q6_3 (a0 : APat) (b1 : Nat) (t : Nat → AV) (H : Mem) (n : Nat) : Prop := t 1 = .own b1 0 ∧ H b1 = some (.cells (c39 a0) 39) ∧ b1 < n
theorem okB_R04_placedPat (F : Nat) (ρ154 : APat → Option Bool) (hρ154 : ∀ a0 r, ρ154 a0 = some r → RunF Tryz.prog T.T 154 [.agg (c39 a0)] (.sc (.bool r))) (a0 : APat) (r : Bool) (h : R04_placedPat_B F ρ154 a0 = some r) : RunF Tryz.prog T.T 154 [.agg (c39 a0)] (.sc (.bool r)) := by
  rw [R04_placedPat_B] at h
  refine RunF.z Tryz.func154 rfl rfl rfl rfl rfl (fun C hr => ?_)
  refine gn (fun t H n => t 0 = .agg (c39 a0)) (by simp) fun t H n q => ?_
  apply eY 2; simp [q]
  refine gn (fun t H n => t 0 = .agg (c39 a0)) (by simp [q]) fun t H n q => ?_
  refine Stk.om (mop_box T.t39 (cs := c39 a0) (by show partOk (t 0) = true; rw [q]; rfl) (by show cellsOf (t 0) = _; rw [q]; rfl)) (by simp [q]) rfl (fun t' ht' => ?_)
  refine gn (fun t H n => ∃ b1, t 1 = .own b1 0 ∧ H b1 = some (.cells (c39 a0) 39) ∧ b1 < n) ⟨n, by simp [ht'], upd_same _ _ _, Nat.lt_succ_self _⟩ fun t H n ⟨b1, q⟩ => ?_
  apply eY 6; simp [q, ld_39_1_28]
  refine gn (fun t H n => Q6_3 a0 b1 t H n ∧ t 6 = .agg (c28 a0.At)) (by simp [q, ld_39_1_28]) fun t H n q => ?_
  refine Stk.ov (vop_build T.t28 rfl rfl (cs := c28 (APos.mk 0 0)) (cs' := c28 (APos.mk 0 0)) rfl (.nil)) (by simp [q]) rfl (fun t' ht' => ?_)
  refine gn (fun t H n => Q6_3 a0 b1 t H n ∧ t 6 = .agg (c28 a0.At) ∧ t 7 = .agg (c28 (APos.mk 0 0))) (by simp [ht', q]) fun t H n q => ?_
  apply eY 9; simp [q, eqM28]
  refine gn (fun t H n => Q6_3 a0 b1 t H n ∧ t 3 = .sc (.bool (!((a0.At.Line == ((APos.mk 0 0).Line)) && ((a0.At.Col == ((APos.mk 0 0).Col)))))) ∧ t 4 = .sc (.int .i64 0)) (by simp [q, eqM28]) fun t H n q => ?_
  refine Stk.lo (fun μ t H n => ∃ v2 : Bool, ∃ v3 : Int, R04_placedPat_L0 F ρ154 a0 μ v2 v3 = some r ∧ t 1 = .own b1 0 ∧ t 3 = .sc (.bool v2) ∧ t 4 = .sc (.int .i64 v3) ∧ H b1 = some (.cells (c39 a0) 39) ∧ b1 < n) F ⟨(!((a0.At.Line == ((APos.mk 0 0).Line)) && ((a0.At.Col == ((APos.mk 0 0).Col))))), 0, h, q.1.1, q.2.1, q.2.2, q.1.2.1, q.1.2.2⟩ ?_
  clear q h
  rintro J1 hJ1 μ t H n ⟨v2, v3, h, q⟩
  cases μ with
  | zero => exact absurd h (by simp [R04_placedPat_L0])
  | succ μ =>
  rw [R04_placedPat_L0] at h
  apply eY 9; simp [q, ld_39_5_37]
  refine cd (decide (v3 < (a0.Kids.length : Int))) (by simp [q, ld_39_5_37]) (fun hb6 => ?_) (fun hb6 => ?_)
  ·have h := cT hb6 h
   apply eY 6; simp [q, ld_39_5_37]
   refine gn (fun t H n => Q6_3 a0 b1 t H n ∧ t 4 = .sc (.int .i64 v3) ∧ t 17 = .sc (.bool v2)) (by simp [q, ld_39_5_37]) fun t H n q => ?_
   obtain ⟨K2, hK2, h⟩ := jnd h
   refine Stk.jo 7 (fun t H n => ∃ v7 : Bool, K2 v7 = some r ∧ t 1 = .own b1 0 ∧ t 4 = .sc (.int .i64 v3) ∧ t 24 = .sc (.bool v7) ∧ H b1 = some (.cells (c39 a0) 39) ∧ b1 < n) (fun J2 hJ2 => ?_) ?_
   · rcases Bool.eq_false_or_eq_true v2 with hb2 | hb2
     · obtain ⟨⟨f1, b_b1, l_b1⟩, f4, f17⟩ := q
       rw [hb2] at f17
       replace h := cT hb2 h
       apply eY 8; simp [f1, f4, f17, b_b1]
       exact l0 (hJ2 _ _ _ ⟨true, h, by and_intros <;> first | assumption | simp [f1, f4, f17, b_b1]⟩)
     · obtain ⟨⟨f1, b_b1, l_b1⟩, f4, f17⟩ := q
       rw [hb2] at f17
       replace h := cF hb2 h
       obtain ⟨x8, hx8, h⟩ := bnd h
       obtain ⟨i0x8, i1x8, i2x8, _⟩ := idx_ok hx8
       have ex8_0_39 : partOf T.T 39 (encs c39 a0.Kids) (v3.toNat * 6) = some (.agg (c39 x8)) := (part_elem0 (e := c39) (z := 6) (ty := 39) T.t39 (by decide) (by decide) hx8 0 (by decide)).trans (ld_39_0_39 _)
       obtain ⟨x9, hx9, h⟩ := bnd h
       apply eY 5; simp [f1, f4, f17, b_b1, ld_39_5_37, i0x8, i1x8, pd39, ex8_0_39]
       refine cw (hρ154 _ _ hx9) (by simp [f1, f4, f17, b_b1, ld_39_5_37, i0x8, i1x8, pd39, ex8_0_39]) rfl rfl (by simp [f1, f4, f17, b_b1, ld_39_5_37, i0x8, i1x8, pd39, ex8_0_39]) (.cons (.free (fr39 _)) (.nil)) rfl ?_
       rintro _ rfl
       apply eY 2; simp [f1, f4, f17, b_b1, ld_39_5_37, i0x8, i1x8, pd39, ex8_0_39]
       exact l0 (hJ2 _ _ _ ⟨x9, h, by and_intros <;> first | assumption | simp [f1, f4, f17, b_b1, ld_39_5_37, i0x8, i1x8, pd39, ex8_0_39]⟩)
   clear q h
   rintro t H n ⟨v7, h, q⟩
   subst hK2
   apply eY 8; simp [q]
   exact lm (hJ1 _ _ _ _ ⟨v7, (IntKind.i64.wrap (v3 + 1)), h, by simp [q]⟩)
  ·have h := cF hb6 h
   refine Stk.ex rfl ?_
   apply eY 6; simp [q, ld_39_5_37]
   obtain rfl := sj h
   exact (hF hr (by simp [q, ld_39_5_37]) rfl).1
theorem okG_R04_placedPat : ∀ F : Nat, (∀ (a0 : APat) (r : Bool), R04_placedPat F a0 = some r → RunF Tryz.prog T.T 154 [.agg (c39 a0)] (.sc (.bool r)))
  | 0 => (fun a0 r h => by rw [R04_placedPat] at h; cases h)
  | F + 1 => (fun a0 r h => okB_R04_placedPat F (R04_placedPat F) (okG_R04_placedPat F) a0 r (by rw [R04_placedPat] at h; exact h))
theorem ok_R04_placedPat (F : Nat) (a0 : APat) (r : Bool) (h : R04_placedPat F a0 = some r) : RunF Tryz.prog T.T 154 [.agg (c39 a0)] (.sc (.bool r)) := (okG_R04_placedPat F) a0 r h
@[simp] abbrev Q6_4 (a0 : AExpr) (b1 : Nat) (t : Nat → AV) (H : Mem) (n : Nat) : Prop := t 1 = .own b1 0 ∧ H b1 = some (.cells (c33 a0) 33) ∧ b1 < n
theorem okB_R04_placed (F : Nat) (ρ83 : AExpr → Option Bool) (hρ83 : ∀ a0 r, ρ83 a0 = some r → RunF Tryz.prog T.T 83 [.agg (c33 a0)] (.sc (.bool r))) (a0 : AExpr) (r : Bool) (h : R04_placed_B F ρ83 a0 = some r) : RunF Tryz.prog T.T 83 [.agg (c33 a0)] (.sc (.bool r)) := by
  rw [R04_placed_B] at h
  refine RunF.z Tryz.func83 rfl rfl rfl rfl rfl (fun C hr => ?_)
  refine gn (fun t H n => t 0 = .agg (c33 a0)) (by simp) fun t H n q => ?_
  apply eY 2; simp [q]
  refine gn (fun t H n => t 0 = .agg (c33 a0)) (by simp [q]) fun t H n q => ?_
  refine Stk.om (mop_box T.t33 (cs := c33 a0) (by show partOk (t 0) = true; rw [q]; rfl) (by show cellsOf (t 0) = _; rw [q]; rfl)) (by simp [q]) rfl (fun t' ht' => ?_)
  refine gn (fun t H n => ∃ b1, t 1 = .own b1 0 ∧ H b1 = some (.cells (c33 a0) 33) ∧ b1 < n) ⟨n, by simp [ht'], upd_same _ _ _, Nat.lt_succ_self _⟩ fun t H n ⟨b1, q⟩ => ?_
  apply eY 6; simp [q, ld_33_1_28]
  refine gn (fun t H n => Q6_4 a0 b1 t H n ∧ t 7 = .agg (c28 a0.At)) (by simp [q, ld_33_1_28]) fun t H n q => ?_
  refine Stk.ov (vop_build T.t28 rfl rfl (cs := c28 (APos.mk 0 0)) (cs' := c28 (APos.mk 0 0)) rfl (.nil)) (by simp [q]) rfl (fun t' ht' => ?_)
  refine gn (fun t H n => Q6_4 a0 b1 t H n ∧ t 7 = .agg (c28 a0.At) ∧ t 8 = .agg (c28 (APos.mk 0 0))) (by simp [ht', q]) fun t H n q => ?_
  apply eY 8; simp [q, eqM28]
  obtain ⟨K1, hK1, h⟩ := jnd h
  refine Stk.jn (fun t H n => ∃ v2 : Bool, K1 v2 = some r ∧ t 1 = .own b1 0 ∧ t 3 = .sc (.bool v2) ∧ H b1 = some (.cells (c33 a0) 33) ∧ b1 < n) trivial (fun J1 hJ1 => ?_) ?_
  · skip
    apply eY 1; simp [q, eqM28]
    refine gn (fun t H n => Q6_4 a0 b1 t H n ∧ t 3 = .sc (.bool (!((a0.At.Line == ((APos.mk 0 0).Line)) && ((a0.At.Col == ((APos.mk 0 0).Col)))))) ∧ t 4 = .sc (.int .i64 0)) (by simp [q, eqM28]) fun t H n q => ?_
    refine Stk.lo (fun μ t H n => ∃ v3 : Bool, ∃ v4 : Int, R04_placed_L0 F ρ83 a0 K1 μ v3 v4 = some r ∧ t 1 = .own b1 0 ∧ t 3 = .sc (.bool v3) ∧ t 4 = .sc (.int .i64 v4) ∧ H b1 = some (.cells (c33 a0) 33) ∧ b1 < n) F ⟨(!((a0.At.Line == ((APos.mk 0 0).Line)) && ((a0.At.Col == ((APos.mk 0 0).Col))))), 0, h, q.1.1, q.2.1, q.2.2, q.1.2.1, q.1.2.2⟩ ?_
    clear q h
    rintro J2 hJ2 μ t H n ⟨v3, v4, h, q⟩
    cases μ with
    | zero => exact absurd h (by simp [R04_placed_L0])
    | succ μ =>
    rw [R04_placed_L0] at h
    apply eY 9; simp [q, ld_33_6_30]
    refine cd (decide (v4 < (a0.Kids.length : Int))) (by simp [q, ld_33_6_30]) (fun hb7 => ?_) (fun hb7 => ?_)
    ·have h := cT hb7 h
     apply eY 6; simp [q, ld_33_6_30]
     refine gn (fun t H n => Q6_4 a0 b1 t H n ∧ t 4 = .sc (.int .i64 v4) ∧ t 18 = .sc (.bool v3)) (by simp [q, ld_33_6_30]) fun t H n q => ?_
     obtain ⟨K3, hK3, h⟩ := jnd h
     refine Stk.jo 7 (fun t H n => ∃ v8 : Bool, K3 v8 = some r ∧ t 1 = .own b1 0 ∧ t 4 = .sc (.int .i64 v4) ∧ t 25 = .sc (.bool v8) ∧ H b1 = some (.cells (c33 a0) 33) ∧ b1 < n) (fun J3 hJ3 => ?_) ?_
     · rcases Bool.eq_false_or_eq_true v3 with hb3 | hb3
       · obtain ⟨⟨f1, b_b1, l_b1⟩, f4, f18⟩ := q
         rw [hb3] at f18
         replace h := cT hb3 h
         apply eY 8; simp [f1, f4, f18, b_b1]
         exact l0 (hJ3 _ _ _ ⟨true, h, by and_intros <;> first | assumption | simp [f1, f4, f18, b_b1]⟩)
       · obtain ⟨⟨f1, b_b1, l_b1⟩, f4, f18⟩ := q
         rw [hb3] at f18
         replace h := cF hb3 h
         obtain ⟨x9, hx9, h⟩ := bnd h
         obtain ⟨i0x9, i1x9, i2x9, _⟩ := idx_ok hx9
         have ex9_0_33 : partOf T.T 33 (encs c33 a0.Kids) (v4.toNat * 8) = some (.agg (c33 x9)) := (part_elem0 (e := c33) (z := 8) (ty := 33) T.t33 (by decide) (by decide) hx9 0 (by decide)).trans (ld_33_0_33 _)
         obtain ⟨x10, hx10, h⟩ := bnd h
         apply eY 5; simp [f1, f4, f18, b_b1, ld_33_6_30, i0x9, i1x9, pd33, ex9_0_33]
         refine cw (hρ83 _ _ hx10) (by simp [f1, f4, f18, b_b1, ld_33_6_30, i0x9, i1x9, pd33, ex9_0_33]) rfl rfl (by simp [f1, f4, f18, b_b1, ld_33_6_30, i0x9, i1x9, pd33, ex9_0_33]) (.cons (.free (fr33 _)) (.nil)) rfl ?_
         rintro _ rfl
         apply eY 2; simp [f1, f4, f18, b_b1, ld_33_6_30, i0x9, i1x9, pd33, ex9_0_33]
         exact l0 (hJ3 _ _ _ ⟨x10, h, by and_intros <;> first | assumption | simp [f1, f4, f18, b_b1, ld_33_6_30, i0x9, i1x9, pd33, ex9_0_33]⟩)
     clear q h
     rintro t H n ⟨v8, h, q⟩
     subst hK3
     apply eY 8; simp [q]
     exact lm (hJ2 _ _ _ _ ⟨v8, (IntKind.i64.wrap (v4 + 1)), h, by simp [q]⟩)
    ·have h := cF hb7 h
     refine Stk.ex rfl ?_
     exact l0 (hJ1 _ _ _ ⟨v3, h, by simp [q, ld_33_6_30]⟩)
  clear q h
  rintro t H n ⟨v2, h, q⟩
  subst hK1
  apply eY 6; simp [q]
  refine gn (fun t H n => Q6_4 a0 b1 t H n ∧ t 3 = .sc (.bool v2) ∧ t 5 = .sc (.int .i64 0)) (by simp [q]) fun t H n q => ?_
  refine Stk.lo (fun μ t H n => ∃ v11 : Bool, ∃ v12 : Int, R04_placed_L1 F ρ83 a0 μ v11 v12 = some r ∧ t 1 = .own b1 0 ∧ t 3 = .sc (.bool v11) ∧ t 5 = .sc (.int .i64 v12) ∧ H b1 = some (.cells (c33 a0) 33) ∧ b1 < n) F ⟨v2, 0, h, q.1.1, q.2.1, q.2.2, q.1.2.1, q.1.2.2⟩ ?_
  clear q h
  rintro J4 hJ4 μ t H n ⟨v11, v12, h, q⟩
  cases μ with
  | zero => exact absurd h (by simp [R04_placed_L1])
  | succ μ =>
  rw [R04_placed_L1] at h
  apply eY 9; simp [q, ld_33_7_31]
  refine cd (decide (v12 < (a0.Arms.length : Int))) (by simp [q, ld_33_7_31]) (fun hb15 => ?_) (fun hb15 => ?_)
  ·have h := cT hb15 h
   apply eY 6; simp [q, ld_33_7_31]
   refine gn (fun t H n => Q6_4 a0 b1 t H n ∧ t 5 = .sc (.int .i64 v12) ∧ t 34 = .sc (.bool v11)) (by simp [q, ld_33_7_31]) fun t H n q => ?_
   obtain ⟨K5, hK5, h⟩ := jnd h
   refine Stk.jo 8 (fun t H n => ∃ v16 : Bool, K5 v16 = some r ∧ t 1 = .own b1 0 ∧ t 5 = .sc (.int .i64 v12) ∧ t 42 = .sc (.bool v16) ∧ H b1 = some (.cells (c33 a0) 33) ∧ b1 < n) (fun J5 hJ5 => ?_) ?_
   · rcases Bool.eq_false_or_eq_true v11 with hb5 | hb5
     · obtain ⟨⟨f1, b_b1, l_b1⟩, f5, f34⟩ := q
       rw [hb5] at f34
       replace h := cT hb5 h
       apply eY 9; simp [f1, f5, f34, b_b1]
       exact l0 (hJ5 _ _ _ ⟨true, h, by and_intros <;> first | assumption | simp [f1, f5, f34, b_b1]⟩)
     · obtain ⟨⟨f1, b_b1, l_b1⟩, f5, f34⟩ := q
       rw [hb5] at f34
       replace h := cF hb5 h
       obtain ⟨x17, hx17, h⟩ := bnd h
       obtain ⟨i0x17, i1x17, i2x17, _⟩ := idx_ok hx17
       have ex17_6_33 : partOf T.T 33 (encs c68 a0.Arms) (v12.toNat * 14 + 6) = some (.agg (c33 x17.Body)) := (part_elem0 (e := c68) (z := 14) (ty := 33) T.t33 (by decide) (by decide) hx17 6 (by decide)).trans (ld_68_6_33 _)
       obtain ⟨x18, hx18, h⟩ := bnd h
       apply eY 6; simp [f1, f5, f34, b_b1, ld_33_7_31, i0x17, i1x17, pd33, ex17_6_33]
       refine cw (hρ83 _ _ hx18) (by simp [f1, f5, f34, b_b1, ld_33_7_31, i0x17, i1x17, pd33, ex17_6_33]) rfl rfl (by simp [f1, f5, f34, b_b1, ld_33_7_31, i0x17, i1x17, pd33, ex17_6_33]) (.cons (.free (fr33 _)) (.nil)) rfl ?_
       rintro _ rfl
       apply eY 2; simp [f1, f5, f34, b_b1, ld_33_7_31, i0x17, i1x17, pd33, ex17_6_33]
       exact l0 (hJ5 _ _ _ ⟨x18, h, by and_intros <;> first | assumption | simp [f1, f5, f34, b_b1, ld_33_7_31, i0x17, i1x17, pd33, ex17_6_33]⟩)
   clear q h
   rintro t H n ⟨v16, h, q⟩
   subst hK5
   apply eY 1; simp [q]
   refine gn (fun t H n => Q6_4 a0 b1 t H n ∧ t 5 = .sc (.int .i64 v12) ∧ t 43 = .sc (.bool v16)) (by simp [q]) fun t H n q => ?_
   obtain ⟨K6, hK6, h⟩ := jnd h
   refine Stk.jo 8 (fun t H n => ∃ v19 : Bool, K6 v19 = some r ∧ t 1 = .own b1 0 ∧ t 5 = .sc (.int .i64 v12) ∧ t 51 = .sc (.bool v19) ∧ H b1 = some (.cells (c33 a0) 33) ∧ b1 < n) (fun J6 hJ6 => ?_) ?_
   · rcases Bool.eq_false_or_eq_true v16 with hb6 | hb6
     · obtain ⟨⟨f1, b_b1, l_b1⟩, f5, f43⟩ := q
       rw [hb6] at f43
       replace h := cT hb6 h
       apply eY 9; simp [f1, f5, f43, b_b1]
       exact l0 (hJ6 _ _ _ ⟨true, h, by and_intros <;> first | assumption | simp [f1, f5, f43, b_b1]⟩)
     · obtain ⟨⟨f1, b_b1, l_b1⟩, f5, f43⟩ := q
       rw [hb6] at f43
       replace h := cF hb6 h
       obtain ⟨x20, hx20, h⟩ := bnd h
       obtain ⟨i0x20, i1x20, i2x20, _⟩ := idx_ok hx20
       have ex20_0_39 : partOf T.T 39 (encs c68 a0.Arms) (v12.toNat * 14) = some (.agg (c39 x20.Pat)) := (part_elem0 (e := c68) (z := 14) (ty := 39) T.t39 (by decide) (by decide) hx20 0 (by decide)).trans (ld_68_0_39 _)
       obtain ⟨x21, hx21, h⟩ := bnd h
       apply eY 6; simp [f1, f5, f43, b_b1, ld_33_7_31, i0x20, i1x20, pd39, ex20_0_39]
       refine cw (ok_R04_placedPat F _ _ hx21) (by simp [f1, f5, f43, b_b1, ld_33_7_31, i0x20, i1x20, pd39, ex20_0_39]) rfl rfl (by simp [f1, f5, f43, b_b1, ld_33_7_31, i0x20, i1x20, pd39, ex20_0_39]) (.cons (.free (fr39 _)) (.nil)) rfl ?_
       rintro _ rfl
       apply eY 2; simp [f1, f5, f43, b_b1, ld_33_7_31, i0x20, i1x20, pd39, ex20_0_39]
       exact l0 (hJ6 _ _ _ ⟨x21, h, by and_intros <;> first | assumption | simp [f1, f5, f43, b_b1, ld_33_7_31, i0x20, i1x20, pd39, ex20_0_39]⟩)
   clear q h
   rintro t H n ⟨v19, h, q⟩
   subst hK6
   apply eY 8; simp [q]
   exact lm (hJ4 _ _ _ _ ⟨v19, (IntKind.i64.wrap (v12 + 1)), h, by simp [q]⟩)
  ·have h := cF hb15 h
   refine Stk.ex rfl ?_
   apply eY 6; simp [q, ld_33_7_31]
   obtain rfl := sj h
   exact (hF hr (by simp [q, ld_33_7_31]) rfl).1
theorem okG_R04_placed : ∀ F : Nat, (∀ (a0 : AExpr) (r : Bool), R04_placed F a0 = some r → RunF Tryz.prog T.T 83 [.agg (c33 a0)] (.sc (.bool r)))
  | 0 => (fun a0 r h => by rw [R04_placed] at h; cases h)
  | F + 1 => (fun a0 r h => okB_R04_placed F (R04_placed F) (okG_R04_placed F) a0 r (by rw [R04_placed] at h; exact h))
theorem ok_R04_placed (F : Nat) (a0 : AExpr) (r : Bool) (h : R04_placed F a0 = some r) : RunF Tryz.prog T.T 83 [.agg (c33 a0)] (.sc (.bool r)) := (okG_R04_placed F) a0 r h
attribute [-simp] Go.Proofs.YtappiofmkoelnaaGreatDoorW.Ah.splice
open Go.Proofs.YtappiofmkoelnaaGreatDoorW.Ah Go.Proofs.YtappiofmkoelnaaGreatDoor
set_option linter.unusedVariables false
set_option linter.unusedSimpArgs false
set_option maxRecDepth 8000
attribute [local simp] T.t3 T.t4 T.t9 T.t21 T.t22 T.t23 T.t24 T.t26 T.t28 T.t33 T.t34 T.t36 T.t47 T.t72 T.t77 T.t83 List.range List.range.loop
attribute [-simp] appendAV fillAV
@[simp] abbrev Q7_1 (a0 : AProg) (b1 : Nat) (t : Nat → AV) (H : Mem) (n : Nat) : Prop := t 1 = .own b1 0 ∧ H b1 = some (.cells (c36 a0) 36) ∧ b1 < n
theorem ok_R04_Placed (F : Nat) (a0 : AProg) (r : Bool) (h : R04_Placed F a0 = some r) : RunF Tryz.prog T.T 32 [.agg (c36 a0)] (.sc (.bool r)) := by
  rw [R04_Placed] at h
  refine RunF.z Tryz.func32 rfl rfl rfl rfl rfl (fun C hr => ?_)
  refine gn (fun t H n => t 0 = .agg (c36 a0)) (by simp) fun t H n q => ?_
  apply eY 2; simp [q]
  refine gn (fun t H n => t 0 = .agg (c36 a0)) (by simp [q]) fun t H n q => ?_
  refine Stk.om (mop_box T.t36 (cs := c36 a0) (by show partOk (t 0) = true; rw [q]; rfl) (by show cellsOf (t 0) = _; rw [q]; rfl)) (by simp [q]) rfl (fun t' ht' => ?_)
  refine gn (fun t H n => ∃ b1, t 1 = .own b1 0 ∧ H b1 = some (.cells (c36 a0) 36) ∧ b1 < n) ⟨n, by simp [ht'], upd_same _ _ _, Nat.lt_succ_self _⟩ fun t H n ⟨b1, q⟩ => ?_
  obtain ⟨x2, hx2, h⟩ := bnd h
  apply eY 6; simp [q, ld_36_8_33]
  refine cw (ok_R04_placed F _ _ hx2) (by simp [q, ld_36_8_33]) rfl rfl (by simp [q, ld_36_8_33]) (.cons (.free (fr33 _)) (.nil)) rfl ?_
  rintro _ rfl
  apply eY 7; simp [q, ld_36_8_33]
  obtain ⟨K1, hK1, h⟩ := jnd h
  refine Stk.jn (fun t H n => ∃ v3 : Bool, K1 v3 = some r ∧ t 1 = .own b1 0 ∧ t 3 = .sc (.bool v3) ∧ H b1 = some (.cells (c36 a0) 36) ∧ b1 < n) trivial (fun J1 hJ1 => ?_) ?_
  · skip
    apply eY 1; simp [q, ld_36_8_33]
    refine gn (fun t H n => Q7_1 a0 b1 t H n ∧ t 3 = .sc (.bool x2) ∧ t 4 = .sc (.int .i64 0)) (by simp [q, ld_36_8_33]) fun t H n q => ?_
    refine Stk.lo (fun μ t H n => ∃ v4 : Bool, ∃ v5 : Int, R04_Placed_L0 F a0 K1 μ v4 v5 = some r ∧ t 1 = .own b1 0 ∧ t 3 = .sc (.bool v4) ∧ t 4 = .sc (.int .i64 v5) ∧ H b1 = some (.cells (c36 a0) 36) ∧ b1 < n) F ⟨x2, 0, h, q.1.1, q.2.1, q.2.2, q.1.2.1, q.1.2.2⟩ ?_
    clear q h
    rintro J2 hJ2 μ t H n ⟨v4, v5, h, q⟩
    cases μ with
    | zero => exact absurd h (by simp [R04_Placed_L0])
    | succ μ =>
    rw [R04_Placed_L0] at h
    apply eY 9; simp [q, ld_36_0_22]
    refine cd (decide (v5 < (a0.Datas.length : Int))) (by simp [q, ld_36_0_22]) (fun hb8 => ?_) (fun hb8 => ?_)
    ·have h := cT hb8 h
     apply eY 6; simp [q, ld_36_0_22]
     refine gn (fun t H n => Q7_1 a0 b1 t H n ∧ t 4 = .sc (.int .i64 v5) ∧ t 18 = .sc (.bool v4)) (by simp [q, ld_36_0_22]) fun t H n q => ?_
     obtain ⟨K3, hK3, h⟩ := jnd h
     refine Stk.jo 9 (fun t H n => ∃ v9 : Bool, K3 v9 = some r ∧ t 1 = .own b1 0 ∧ t 4 = .sc (.int .i64 v5) ∧ t 27 = .sc (.bool v9) ∧ H b1 = some (.cells (c36 a0) 36) ∧ b1 < n) (fun J3 hJ3 => ?_) ?_
     · rcases Bool.eq_false_or_eq_true v4 with hb3 | hb3
       · obtain ⟨⟨f1, b_b1, l_b1⟩, f4, f18⟩ := q
         rw [hb3] at f18
         replace h := cT hb3 h
         apply eY 10; simp [f1, f4, f18, b_b1]
         exact l0 (hJ3 _ _ _ ⟨true, h, by and_intros <;> first | assumption | simp [f1, f4, f18, b_b1]⟩)
       · obtain ⟨⟨f1, b_b1, l_b1⟩, f4, f18⟩ := q
         rw [hb3] at f18
         replace h := cF hb3 h
         obtain ⟨x10, hx10, h⟩ := bnd h
         obtain ⟨i0x10, i1x10, i2x10, _⟩ := idx_ok hx10
         have ex10_0_28 : partOf T.T 28 (encs c72 a0.Datas) (v5.toNat * 4) = some (.agg (c28 x10.At)) := (part_elem0 (e := c72) (z := 4) (ty := 28) T.t28 (by decide) (by decide) hx10 0 (by decide)).trans (ld_72_0_28 _)
         apply eY 6; simp [f1, f4, f18, b_b1, ld_36_0_22, i0x10, i1x10, pd28, ex10_0_28]
         refine gn (fun t H n => Q7_1 a0 b1 t H n ∧ t 4 = .sc (.int .i64 v5) ∧ t 18 = .sc (.bool false) ∧ t 24 = .agg (c28 x10.At)) (by simp [f1, f4, f18, b_b1, ld_36_0_22, i0x10, i1x10, pd28, ex10_0_28, l_b1]) fun t H n q => ?_
         refine Stk.ov (vop_build T.t28 rfl rfl (cs := c28 (APos.mk 0 0)) (cs' := c28 (APos.mk 0 0)) rfl (.nil)) (by simp [q]) rfl (fun t' ht' => ?_)
         refine gn (fun t H n => Q7_1 a0 b1 t H n ∧ t 4 = .sc (.int .i64 v5) ∧ t 18 = .sc (.bool false) ∧ t 24 = .agg (c28 x10.At) ∧ t 25 = .agg (c28 (APos.mk 0 0))) (by simp [ht', q]) fun t H n q => ?_
         apply eY 3; simp [q, eqM28]
         exact l0 (hJ3 _ _ _ ⟨(!((x10.At.Line == ((APos.mk 0 0).Line)) && ((x10.At.Col == ((APos.mk 0 0).Col))))), h, by simp [q, eqM28]⟩)
     clear q h
     rintro t H n ⟨v9, h, q⟩
     subst hK3
     apply eY 8; simp [q]
     exact lm (hJ2 _ _ _ _ ⟨v9, (IntKind.i64.wrap (v5 + 1)), h, by simp [q]⟩)
    ·have h := cF hb8 h
     refine Stk.ex rfl ?_
     exact l0 (hJ1 _ _ _ ⟨v4, h, by simp [q, ld_36_0_22]⟩)
  clear q h
  rintro t H n ⟨v3, h, q⟩
  subst hK1
  apply eY 5; simp [q]
  obtain ⟨K4, hK4, h⟩ := jnd h
  refine Stk.jn (fun t H n => ∃ v11 : Bool, K4 v11 = some r ∧ t 1 = .own b1 0 ∧ t 3 = .sc (.bool v11) ∧ H b1 = some (.cells (c36 a0) 36) ∧ b1 < n) trivial (fun J4 hJ4 => ?_) ?_
  · skip
    apply eY 1; simp [q]
    refine gn (fun t H n => Q7_1 a0 b1 t H n ∧ t 3 = .sc (.bool v3) ∧ t 5 = .sc (.int .i64 0)) (by simp [q]) fun t H n q => ?_
    refine Stk.lo (fun μ t H n => ∃ v12 : Bool, ∃ v13 : Int, R04_Placed_L1 F a0 K4 μ v12 v13 = some r ∧ t 1 = .own b1 0 ∧ t 3 = .sc (.bool v12) ∧ t 5 = .sc (.int .i64 v13) ∧ H b1 = some (.cells (c36 a0) 36) ∧ b1 < n) F ⟨v3, 0, h, q.1.1, q.2.1, q.2.2, q.1.2.1, q.1.2.2⟩ ?_
    clear q h
    rintro J5 hJ5 μ t H n ⟨v12, v13, h, q⟩
    cases μ with
    | zero => exact absurd h (by simp [R04_Placed_L1])
    | succ μ =>
    rw [R04_Placed_L1] at h
    apply eY 9; simp [q, ld_36_1_23]
    refine cd (decide (v13 < (a0.Funs.length : Int))) (by simp [q, ld_36_1_23]) (fun hb16 => ?_) (fun hb16 => ?_)
    ·have h := cT hb16 h
     apply eY 6; simp [q, ld_36_1_23]
     refine gn (fun t H n => Q7_1 a0 b1 t H n ∧ t 5 = .sc (.int .i64 v13) ∧ t 36 = .sc (.bool v12)) (by simp [q, ld_36_1_23]) fun t H n q => ?_
     obtain ⟨K6, hK6, h⟩ := jnd h
     refine Stk.jo 9 (fun t H n => ∃ v17 : Bool, K6 v17 = some r ∧ t 1 = .own b1 0 ∧ t 5 = .sc (.int .i64 v13) ∧ t 45 = .sc (.bool v17) ∧ H b1 = some (.cells (c36 a0) 36) ∧ b1 < n) (fun J6 hJ6 => ?_) ?_
     · rcases Bool.eq_false_or_eq_true v12 with hb6 | hb6
       · obtain ⟨⟨f1, b_b1, l_b1⟩, f5, f36⟩ := q
         rw [hb6] at f36
         replace h := cT hb6 h
         apply eY 10; simp [f1, f5, f36, b_b1]
         exact l0 (hJ6 _ _ _ ⟨true, h, by and_intros <;> first | assumption | simp [f1, f5, f36, b_b1]⟩)
       · obtain ⟨⟨f1, b_b1, l_b1⟩, f5, f36⟩ := q
         rw [hb6] at f36
         replace h := cF hb6 h
         obtain ⟨x18, hx18, h⟩ := bnd h
         obtain ⟨i0x18, i1x18, i2x18, _⟩ := idx_ok hx18
         have ex18_0_28 : partOf T.T 28 (encs c77 a0.Funs) (v13.toNat * 15) = some (.agg (c28 x18.At)) := (part_elem0 (e := c77) (z := 15) (ty := 28) T.t28 (by decide) (by decide) hx18 0 (by decide)).trans (ld_77_0_28 _)
         apply eY 6; simp [f1, f5, f36, b_b1, ld_36_1_23, i0x18, i1x18, pd28, ex18_0_28]
         refine gn (fun t H n => Q7_1 a0 b1 t H n ∧ t 5 = .sc (.int .i64 v13) ∧ t 36 = .sc (.bool false) ∧ t 42 = .agg (c28 x18.At)) (by simp [f1, f5, f36, b_b1, ld_36_1_23, i0x18, i1x18, pd28, ex18_0_28, l_b1]) fun t H n q => ?_
         refine Stk.ov (vop_build T.t28 rfl rfl (cs := c28 (APos.mk 0 0)) (cs' := c28 (APos.mk 0 0)) rfl (.nil)) (by simp [q]) rfl (fun t' ht' => ?_)
         refine gn (fun t H n => Q7_1 a0 b1 t H n ∧ t 5 = .sc (.int .i64 v13) ∧ t 36 = .sc (.bool false) ∧ t 42 = .agg (c28 x18.At) ∧ t 43 = .agg (c28 (APos.mk 0 0))) (by simp [ht', q]) fun t H n q => ?_
         apply eY 3; simp [q, eqM28]
         exact l0 (hJ6 _ _ _ ⟨(!((x18.At.Line == ((APos.mk 0 0).Line)) && ((x18.At.Col == ((APos.mk 0 0).Col))))), h, by simp [q, eqM28]⟩)
     clear q h
     rintro t H n ⟨v17, h, q⟩
     subst hK6
     apply eY 1; simp [q]
     refine gn (fun t H n => Q7_1 a0 b1 t H n ∧ t 5 = .sc (.int .i64 v13) ∧ t 46 = .sc (.bool v17)) (by simp [q]) fun t H n q => ?_
     obtain ⟨K7, hK7, h⟩ := jnd h
     refine Stk.jo 8 (fun t H n => ∃ v19 : Bool, K7 v19 = some r ∧ t 1 = .own b1 0 ∧ t 5 = .sc (.int .i64 v13) ∧ t 54 = .sc (.bool v19) ∧ H b1 = some (.cells (c36 a0) 36) ∧ b1 < n) (fun J7 hJ7 => ?_) ?_
     · rcases Bool.eq_false_or_eq_true v17 with hb7 | hb7
       · obtain ⟨⟨f1, b_b1, l_b1⟩, f5, f46⟩ := q
         rw [hb7] at f46
         replace h := cT hb7 h
         apply eY 9; simp [f1, f5, f46, b_b1]
         exact l0 (hJ7 _ _ _ ⟨true, h, by and_intros <;> first | assumption | simp [f1, f5, f46, b_b1]⟩)
       · obtain ⟨⟨f1, b_b1, l_b1⟩, f5, f46⟩ := q
         rw [hb7] at f46
         replace h := cF hb7 h
         obtain ⟨x20, hx20, h⟩ := bnd h
         obtain ⟨i0x20, i1x20, i2x20, _⟩ := idx_ok hx20
         have ex20_7_33 : partOf T.T 33 (encs c77 a0.Funs) (v13.toNat * 15 + 7) = some (.agg (c33 x20.Body)) := (part_elem0 (e := c77) (z := 15) (ty := 33) T.t33 (by decide) (by decide) hx20 7 (by decide)).trans (ld_77_7_33 _)
         obtain ⟨x21, hx21, h⟩ := bnd h
         apply eY 6; simp [f1, f5, f46, b_b1, ld_36_1_23, i0x20, i1x20, pd33, ex20_7_33]
         refine cw (ok_R04_placed F _ _ hx21) (by simp [f1, f5, f46, b_b1, ld_36_1_23, i0x20, i1x20, pd33, ex20_7_33]) rfl rfl (by simp [f1, f5, f46, b_b1, ld_36_1_23, i0x20, i1x20, pd33, ex20_7_33]) (.cons (.free (fr33 _)) (.nil)) rfl ?_
         rintro _ rfl
         apply eY 2; simp [f1, f5, f46, b_b1, ld_36_1_23, i0x20, i1x20, pd33, ex20_7_33]
         exact l0 (hJ7 _ _ _ ⟨x21, h, by and_intros <;> first | assumption | simp [f1, f5, f46, b_b1, ld_36_1_23, i0x20, i1x20, pd33, ex20_7_33]⟩)
     clear q h
     rintro t H n ⟨v19, h, q⟩
     subst hK7
     apply eY 8; simp [q]
     exact lm (hJ5 _ _ _ _ ⟨v19, (IntKind.i64.wrap (v13 + 1)), h, by simp [q]⟩)
    ·have h := cF hb16 h
     refine Stk.ex rfl ?_
     exact l0 (hJ4 _ _ _ ⟨v12, h, by simp [q, ld_36_1_23]⟩)
  clear q h
  rintro t H n ⟨v11, h, q⟩
  subst hK4
  apply eY 6; simp [q]
  refine gn (fun t H n => Q7_1 a0 b1 t H n ∧ t 3 = .sc (.bool v11) ∧ t 6 = .sc (.int .i64 0)) (by simp [q]) fun t H n q => ?_
  refine Stk.lo (fun μ t H n => ∃ v22 : Bool, ∃ v23 : Int, R04_Placed_L2 F a0 μ v22 v23 = some r ∧ t 1 = .own b1 0 ∧ t 3 = .sc (.bool v22) ∧ t 6 = .sc (.int .i64 v23) ∧ H b1 = some (.cells (c36 a0) 36) ∧ b1 < n) F ⟨v11, 0, h, q.1.1, q.2.1, q.2.2, q.1.2.1, q.1.2.2⟩ ?_
  clear q h
  rintro J8 hJ8 μ t H n ⟨v22, v23, h, q⟩
  cases μ with
  | zero => exact absurd h (by simp [R04_Placed_L2])
  | succ μ =>
  rw [R04_Placed_L2] at h
  apply eY 9; simp [q, ld_36_16_34]
  refine cd (decide (v23 < (a0.Hands.length : Int))) (by simp [q, ld_36_16_34]) (fun hb26 => ?_) (fun hb26 => ?_)
  ·have h := cT hb26 h
   apply eY 6; simp [q, ld_36_16_34]
   refine gn (fun t H n => Q7_1 a0 b1 t H n ∧ t 6 = .sc (.int .i64 v23) ∧ t 63 = .sc (.bool v22)) (by simp [q, ld_36_16_34]) fun t H n q => ?_
   obtain ⟨K9, hK9, h⟩ := jnd h
   refine Stk.jo 9 (fun t H n => ∃ v27 : Bool, K9 v27 = some r ∧ t 1 = .own b1 0 ∧ t 6 = .sc (.int .i64 v23) ∧ t 72 = .sc (.bool v27) ∧ H b1 = some (.cells (c36 a0) 36) ∧ b1 < n) (fun J9 hJ9 => ?_) ?_
   · rcases Bool.eq_false_or_eq_true v22 with hb9 | hb9
     · obtain ⟨⟨f1, b_b1, l_b1⟩, f6, f63⟩ := q
       rw [hb9] at f63
       replace h := cT hb9 h
       apply eY 10; simp [f1, f6, f63, b_b1]
       exact l0 (hJ9 _ _ _ ⟨true, h, by and_intros <;> first | assumption | simp [f1, f6, f63, b_b1]⟩)
     · obtain ⟨⟨f1, b_b1, l_b1⟩, f6, f63⟩ := q
       rw [hb9] at f63
       replace h := cF hb9 h
       obtain ⟨x28, hx28, h⟩ := bnd h
       obtain ⟨i0x28, i1x28, i2x28, _⟩ := idx_ok hx28
       have ex28_0_28 : partOf T.T 28 (encs c83 a0.Hands) (v23.toNat * 16) = some (.agg (c28 x28.At)) := (part_elem0 (e := c83) (z := 16) (ty := 28) T.t28 (by decide) (by decide) hx28 0 (by decide)).trans (ld_83_0_28 _)
       apply eY 6; simp [f1, f6, f63, b_b1, ld_36_16_34, i0x28, i1x28, pd28, ex28_0_28]
       refine gn (fun t H n => Q7_1 a0 b1 t H n ∧ t 6 = .sc (.int .i64 v23) ∧ t 63 = .sc (.bool false) ∧ t 69 = .agg (c28 x28.At)) (by simp [f1, f6, f63, b_b1, ld_36_16_34, i0x28, i1x28, pd28, ex28_0_28, l_b1]) fun t H n q => ?_
       refine Stk.ov (vop_build T.t28 rfl rfl (cs := c28 (APos.mk 0 0)) (cs' := c28 (APos.mk 0 0)) rfl (.nil)) (by simp [q]) rfl (fun t' ht' => ?_)
       refine gn (fun t H n => Q7_1 a0 b1 t H n ∧ t 6 = .sc (.int .i64 v23) ∧ t 63 = .sc (.bool false) ∧ t 69 = .agg (c28 x28.At) ∧ t 70 = .agg (c28 (APos.mk 0 0))) (by simp [ht', q]) fun t H n q => ?_
       apply eY 3; simp [q, eqM28]
       exact l0 (hJ9 _ _ _ ⟨(!((x28.At.Line == ((APos.mk 0 0).Line)) && ((x28.At.Col == ((APos.mk 0 0).Col))))), h, by simp [q, eqM28]⟩)
   clear q h
   rintro t H n ⟨v27, h, q⟩
   subst hK9
   apply eY 1; simp [q]
   refine gn (fun t H n => Q7_1 a0 b1 t H n ∧ t 6 = .sc (.int .i64 v23) ∧ t 73 = .sc (.bool v27)) (by simp [q]) fun t H n q => ?_
   obtain ⟨K10, hK10, h⟩ := jnd h
   refine Stk.jo 8 (fun t H n => ∃ v29 : Bool, K10 v29 = some r ∧ t 1 = .own b1 0 ∧ t 6 = .sc (.int .i64 v23) ∧ t 81 = .sc (.bool v29) ∧ H b1 = some (.cells (c36 a0) 36) ∧ b1 < n) (fun J10 hJ10 => ?_) ?_
   · rcases Bool.eq_false_or_eq_true v27 with hb10 | hb10
     · obtain ⟨⟨f1, b_b1, l_b1⟩, f6, f73⟩ := q
       rw [hb10] at f73
       replace h := cT hb10 h
       apply eY 9; simp [f1, f6, f73, b_b1]
       exact l0 (hJ10 _ _ _ ⟨true, h, by and_intros <;> first | assumption | simp [f1, f6, f73, b_b1]⟩)
     · obtain ⟨⟨f1, b_b1, l_b1⟩, f6, f73⟩ := q
       rw [hb10] at f73
       replace h := cF hb10 h
       obtain ⟨x30, hx30, h⟩ := bnd h
       obtain ⟨i0x30, i1x30, i2x30, _⟩ := idx_ok hx30
       have ex30_8_33 : partOf T.T 33 (encs c83 a0.Hands) (v23.toNat * 16 + 8) = some (.agg (c33 x30.Body)) := (part_elem0 (e := c83) (z := 16) (ty := 33) T.t33 (by decide) (by decide) hx30 8 (by decide)).trans (ld_83_8_33 _)
       obtain ⟨x31, hx31, h⟩ := bnd h
       apply eY 6; simp [f1, f6, f73, b_b1, ld_36_16_34, i0x30, i1x30, pd33, ex30_8_33]
       refine cw (ok_R04_placed F _ _ hx31) (by simp [f1, f6, f73, b_b1, ld_36_16_34, i0x30, i1x30, pd33, ex30_8_33]) rfl rfl (by simp [f1, f6, f73, b_b1, ld_36_16_34, i0x30, i1x30, pd33, ex30_8_33]) (.cons (.free (fr33 _)) (.nil)) rfl ?_
       rintro _ rfl
       apply eY 2; simp [f1, f6, f73, b_b1, ld_36_16_34, i0x30, i1x30, pd33, ex30_8_33]
       exact l0 (hJ10 _ _ _ ⟨x31, h, by and_intros <;> first | assumption | simp [f1, f6, f73, b_b1, ld_36_16_34, i0x30, i1x30, pd33, ex30_8_33]⟩)
   clear q h
   rintro t H n ⟨v29, h, q⟩
   subst hK10
   apply eY 8; simp [q]
   exact lm (hJ8 _ _ _ _ ⟨v29, (IntKind.i64.wrap (v23 + 1)), h, by simp [q]⟩)
  ·have h := cF hb26 h
   refine Stk.ex rfl ?_
   apply eY 6; simp [q, ld_36_16_34]
   obtain rfl := sj h
   exact (hF hr (by simp [q, ld_36_16_34]) rfl).1
theorem ok_lex_Word (F : Nat) (a0 : ByteArray) (r : Bool) (h : lex_Word F a0 = some r) : RunF Tryz.prog T.T 196 [.sc (.string a0)] (.sc (.bool r)) := by
  rw [lex_Word] at h
  refine RunF.z Tryz.func196 rfl rfl rfl rfl rfl (fun C hr => ?_)
  refine gn (fun t H n => t 0 = .sc (.string a0)) (by simp) fun t H n q => ?_
  apply eY 16; simp [q]
  refine cd (a0.toList == (⟨#[99, 97, 112]⟩ : ByteArray).toList) (by simp [q]) (fun hb1 => ?_) (fun hb1 => ?_)
  ·have h := cT hb1 h
   apply eY 1; simp [q]
   refine cd true (Eq.trans (b := AV.sc (.bool ((a0.toList == (⟨#[99, 97, 112]⟩ : ByteArray).toList)))) (by simp [q]) (by rw [hb1])) (fun hb => ?_) (fun hb => by cases hb)
   apply eY 5; simp [q]
   obtain rfl := sj h
   exact (hF hr (by simp [q]) rfl).1
  ·have h := cF hb1 h
   apply eY 5; simp [q]
   refine cd (a0.toList == (⟨#[100, 111]⟩ : ByteArray).toList) (by simp [q]) (fun hb2 => ?_) (fun hb2 => ?_)
   ·have h := cT hb2 h
    apply eY 1; simp [q]
    refine cd true (Eq.trans (b := AV.sc (.bool ((a0.toList == (⟨#[100, 111]⟩ : ByteArray).toList)))) (by simp [q]) (by rw [hb2])) (fun hb => ?_) (fun hb => by cases hb)
    apply eY 5; simp [q]
    obtain rfl := sj h
    exact (hF hr (by simp [q]) rfl).1
   ·have h := cF hb2 h
    apply eY 5; simp [q]
    refine cd (a0.toList == (⟨#[101, 108, 115, 101]⟩ : ByteArray).toList) (by simp [q]) (fun hb3 => ?_) (fun hb3 => ?_)
    ·have h := cT hb3 h
     apply eY 1; simp [q]
     refine cd true (Eq.trans (b := AV.sc (.bool ((a0.toList == (⟨#[101, 108, 115, 101]⟩ : ByteArray).toList)))) (by simp [q]) (by rw [hb3])) (fun hb => ?_) (fun hb => by cases hb)
     apply eY 5; simp [q]
     obtain rfl := sj h
     exact (hF hr (by simp [q]) rfl).1
    ·have h := cF hb3 h
     apply eY 5; simp [q]
     refine cd (a0.toList == (⟨#[101, 110, 100]⟩ : ByteArray).toList) (by simp [q]) (fun hb4 => ?_) (fun hb4 => ?_)
     ·have h := cT hb4 h
      apply eY 1; simp [q]
      refine cd true (Eq.trans (b := AV.sc (.bool ((a0.toList == (⟨#[101, 110, 100]⟩ : ByteArray).toList)))) (by simp [q]) (by rw [hb4])) (fun hb => ?_) (fun hb => by cases hb)
      apply eY 5; simp [q]
      obtain rfl := sj h
      exact (hF hr (by simp [q]) rfl).1
     ·have h := cF hb4 h
      apply eY 5; simp [q]
      refine cd (a0.toList == (⟨#[102, 111, 114]⟩ : ByteArray).toList) (by simp [q]) (fun hb5 => ?_) (fun hb5 => ?_)
      ·have h := cT hb5 h
       apply eY 1; simp [q]
       refine cd true (Eq.trans (b := AV.sc (.bool ((a0.toList == (⟨#[102, 111, 114]⟩ : ByteArray).toList)))) (by simp [q]) (by rw [hb5])) (fun hb => ?_) (fun hb => by cases hb)
       apply eY 5; simp [q]
       obtain rfl := sj h
       exact (hF hr (by simp [q]) rfl).1
      ·have h := cF hb5 h
       apply eY 5; simp [q]
       refine cd (a0.toList == (⟨#[102, 117, 110]⟩ : ByteArray).toList) (by simp [q]) (fun hb6 => ?_) (fun hb6 => ?_)
       ·have h := cT hb6 h
        apply eY 1; simp [q]
        refine cd true (Eq.trans (b := AV.sc (.bool ((a0.toList == (⟨#[102, 117, 110]⟩ : ByteArray).toList)))) (by simp [q]) (by rw [hb6])) (fun hb => ?_) (fun hb => by cases hb)
        apply eY 5; simp [q]
        obtain rfl := sj h
        exact (hF hr (by simp [q]) rfl).1
       ·have h := cF hb6 h
        apply eY 5; simp [q]
        refine cd (a0.toList == (⟨#[105, 102]⟩ : ByteArray).toList) (by simp [q]) (fun hb7 => ?_) (fun hb7 => ?_)
        ·have h := cT hb7 h
         apply eY 1; simp [q]
         refine cd true (Eq.trans (b := AV.sc (.bool ((a0.toList == (⟨#[105, 102]⟩ : ByteArray).toList)))) (by simp [q]) (by rw [hb7])) (fun hb => ?_) (fun hb => by cases hb)
         apply eY 5; simp [q]
         obtain rfl := sj h
         exact (hF hr (by simp [q]) rfl).1
        ·have h := cF hb7 h
         apply eY 5; simp [q]
         refine cd (a0.toList == (⟨#[105, 110]⟩ : ByteArray).toList) (by simp [q]) (fun hb8 => ?_) (fun hb8 => ?_)
         ·have h := cT hb8 h
          apply eY 1; simp [q]
          refine cd true (Eq.trans (b := AV.sc (.bool ((a0.toList == (⟨#[105, 110]⟩ : ByteArray).toList)))) (by simp [q]) (by rw [hb8])) (fun hb => ?_) (fun hb => by cases hb)
          apply eY 5; simp [q]
          obtain rfl := sj h
          exact (hF hr (by simp [q]) rfl).1
         ·have h := cF hb8 h
          apply eY 5; simp [q]
          refine cd (a0.toList == (⟨#[108, 101, 116]⟩ : ByteArray).toList) (by simp [q]) (fun hb9 => ?_) (fun hb9 => ?_)
          ·have h := cT hb9 h
           apply eY 1; simp [q]
           refine cd true (Eq.trans (b := AV.sc (.bool ((a0.toList == (⟨#[108, 101, 116]⟩ : ByteArray).toList)))) (by simp [q]) (by rw [hb9])) (fun hb => ?_) (fun hb => by cases hb)
           apply eY 5; simp [q]
           obtain rfl := sj h
           exact (hF hr (by simp [q]) rfl).1
          ·have h := cF hb9 h
           apply eY 5; simp [q]
           refine cd (a0.toList == (⟨#[109, 97, 116, 99, 104]⟩ : ByteArray).toList) (by simp [q]) (fun hb10 => ?_) (fun hb10 => ?_)
           ·have h := cT hb10 h
            apply eY 1; simp [q]
            refine cd true (Eq.trans (b := AV.sc (.bool ((a0.toList == (⟨#[109, 97, 116, 99, 104]⟩ : ByteArray).toList)))) (by simp [q]) (by rw [hb10])) (fun hb => ?_) (fun hb => by cases hb)
            apply eY 5; simp [q]
            obtain rfl := sj h
            exact (hF hr (by simp [q]) rfl).1
           ·have h := cF hb10 h
            apply eY 5; simp [q]
            refine cd (a0.toList == (⟨#[111, 102]⟩ : ByteArray).toList) (by simp [q]) (fun hb11 => ?_) (fun hb11 => ?_)
            ·have h := cT hb11 h
             apply eY 1; simp [q]
             refine cd true (Eq.trans (b := AV.sc (.bool ((a0.toList == (⟨#[111, 102]⟩ : ByteArray).toList)))) (by simp [q]) (by rw [hb11])) (fun hb => ?_) (fun hb => by cases hb)
             apply eY 5; simp [q]
             obtain rfl := sj h
             exact (hF hr (by simp [q]) rfl).1
            ·have h := cF hb11 h
             apply eY 5; simp [q]
             refine cd (a0.toList == (⟨#[111, 110]⟩ : ByteArray).toList) (by simp [q]) (fun hb12 => ?_) (fun hb12 => ?_)
             ·have h := cT hb12 h
              apply eY 1; simp [q]
              refine cd true (Eq.trans (b := AV.sc (.bool ((a0.toList == (⟨#[111, 110]⟩ : ByteArray).toList)))) (by simp [q]) (by rw [hb12])) (fun hb => ?_) (fun hb => by cases hb)
              apply eY 5; simp [q]
              obtain rfl := sj h
              exact (hF hr (by simp [q]) rfl).1
             ·have h := cF hb12 h
              apply eY 5; simp [q]
              refine cd (a0.toList == (⟨#[113, 117, 101, 117, 101]⟩ : ByteArray).toList) (by simp [q]) (fun hb13 => ?_) (fun hb13 => ?_)
              ·have h := cT hb13 h
               apply eY 1; simp [q]
               refine cd true (Eq.trans (b := AV.sc (.bool ((a0.toList == (⟨#[113, 117, 101, 117, 101]⟩ : ByteArray).toList)))) (by simp [q]) (by rw [hb13])) (fun hb => ?_) (fun hb => by cases hb)
               apply eY 5; simp [q]
               obtain rfl := sj h
               exact (hF hr (by simp [q]) rfl).1
              ·have h := cF hb13 h
               apply eY 5; simp [q]
               refine cd (a0.toList == (⟨#[115, 116, 97, 116, 101]⟩ : ByteArray).toList) (by simp [q]) (fun hb14 => ?_) (fun hb14 => ?_)
               ·have h := cT hb14 h
                apply eY 1; simp [q]
                refine cd true (Eq.trans (b := AV.sc (.bool ((a0.toList == (⟨#[115, 116, 97, 116, 101]⟩ : ByteArray).toList)))) (by simp [q]) (by rw [hb14])) (fun hb => ?_) (fun hb => by cases hb)
                apply eY 5; simp [q]
                obtain rfl := sj h
                exact (hF hr (by simp [q]) rfl).1
               ·have h := cF hb14 h
                apply eY 5; simp [q]
                refine cd (a0.toList == (⟨#[116, 104, 101, 110]⟩ : ByteArray).toList) (by simp [q]) (fun hb15 => ?_) (fun hb15 => ?_)
                ·have h := cT hb15 h
                 apply eY 1; simp [q]
                 refine cd true (Eq.trans (b := AV.sc (.bool ((a0.toList == (⟨#[116, 104, 101, 110]⟩ : ByteArray).toList)))) (by simp [q]) (by rw [hb15])) (fun hb => ?_) (fun hb => by cases hb)
                 apply eY 5; simp [q]
                 obtain rfl := sj h
                 exact (hF hr (by simp [q]) rfl).1
                ·have h := cF hb15 h
                 apply eY 5; simp [q]
                 refine cd (a0.toList == (⟨#[116, 105, 109, 101, 114, 115]⟩ : ByteArray).toList) (by simp [q]) (fun hb16 => ?_) (fun hb16 => ?_)
                 ·have h := cT hb16 h
                  apply eY 1; simp [q]
                  refine cd true (Eq.trans (b := AV.sc (.bool ((a0.toList == (⟨#[116, 105, 109, 101, 114, 115]⟩ : ByteArray).toList)))) (by simp [q]) (by rw [hb16])) (fun hb => ?_) (fun hb => by cases hb)
                  apply eY 5; simp [q]
                  obtain rfl := sj h
                  exact (hF hr (by simp [q]) rfl).1
                 ·have h := cF hb16 h
                  apply eY 5; simp [q]
                  refine cd (a0.toList == (⟨#[116, 121, 112, 101]⟩ : ByteArray).toList) (by simp [q]) (fun hb17 => ?_) (fun hb17 => ?_)
                  ·have h := cT hb17 h
                   apply eY 1; simp [q]
                   refine cd true (Eq.trans (b := AV.sc (.bool ((a0.toList == (⟨#[116, 121, 112, 101]⟩ : ByteArray).toList)))) (by simp [q]) (by rw [hb17])) (fun hb => ?_) (fun hb => by cases hb)
                   apply eY 5; simp [q]
                   obtain rfl := sj h
                   exact (hF hr (by simp [q]) rfl).1
                  ·have h := cF hb17 h
                   apply eY 4; simp [q]
                   refine cd (a0.toList == (⟨#[119, 105, 116, 104]⟩ : ByteArray).toList) (by simp [q]) (fun hb18 => ?_) (fun hb18 => ?_)
                   ·have h := cT hb18 h
                    apply eY 5; simp [q]
                    obtain rfl := sj h
                    exact (hF hr (by simp [q]) rfl).1
                   ·have h := cF hb18 h
                    apply eY 7; simp [q]
                    obtain rfl := sj h
                    exact (hF hr (by simp [q]) rfl).1
theorem ok_u8_ValidString (F : Nat) (a0 : ByteArray) (r : Bool) (h : u8_ValidString F a0 = some r) : RunF Tryz.prog T.T 197 [.sc (.string a0)] (.sc (.bool r)) := by
  unfold u8_ValidString at h
  cases hd : decide (a0.size ≤ maxLen) with
  | true => rw [hd] at h; cases h; exact validString_run a0 (of_decide_eq_true hd)
  | false => rw [hd] at h; cases h
theorem ok_u8_RuneCountInString (F : Nat) (a0 : ByteArray) (r : Int) (h : u8_RuneCountInString F a0 = some r) : RunF Tryz.prog T.T 198 [.sc (.string a0)] (.sc (.int .i64 r)) := by
  rw [u8_RuneCountInString] at h
  refine RunF.z Tryz.func198 rfl rfl rfl rfl rfl (fun C hr => ?_)
  refine gn (fun t H n => t 0 = .sc (.string a0)) (by simp) fun t H n q => ?_
  apply eY 8; simp [q]
  refine gn (fun t H n => t 2 = .sc (.int .i64 0) ∧ t 3 = .sc (.string a0)) (by simp [q]) fun t H n q => ?_
  refine Stk.om (mop_range T.t9 rfl q.2) (by simp [q]) rfl (fun t' ht' => ?_)
  refine gn (fun t H n => ∃ b1, t 2 = .sc (.int .i64 0) ∧ t 4 = .own b1 0 ∧ H b1 = some (.iter a0 0) ∧ b1 < n) ⟨n, j2 (by simp [ht', q]) ⟨upd_same _ _ _, Nat.lt_succ_self _⟩⟩ fun t H n ⟨b1, q⟩ => ?_
  apply eY 2; simp [q]
  refine gn (fun t H n => t 2 = .sc (.int .i64 0) ∧ t 4 = .own b1 0 ∧ H b1 = some (.iter a0 0) ∧ b1 < n) (by simp [q]) fun t H n q => ?_
  refine Stk.lo (fun μ t H n => ∃ v2 : Int, ∃ v3 : Nat, u8_RuneCountInString_L0 F a0 μ v2 v3 = some r ∧ t 2 = .sc (.int .i64 v2) ∧ t 4 = .own b1 0 ∧ H b1 = some (.iter a0 v3) ∧ b1 < n) F ⟨0, 0, h, q⟩ ?_
  clear q h
  rintro J1 hJ1 μ t H n ⟨v2, v3, h, q⟩
  cases μ with
  | zero => exact absurd h (by simp [u8_RuneCountInString_L0])
  | succ μ =>
  rw [u8_RuneCountInString_L0] at h
  apply eY 2; simp [q]
  refine gn (fun t H n => t 2 = .sc (.int .i64 v2) ∧ t 4 = .own b1 0 ∧ H b1 = some (.iter a0 v3) ∧ b1 < n) (by simp [q]) fun t H n q => ?_
  rcases Bool.eq_false_or_eq_true (decide (v3 < a0.size)) with hb6 | hb6
  · have h := cT hb6 h
    refine Stk.om (mop_nextT q.2.1 q.2.2.1 (of_decide_eq_true hb6)) (by simp [q]) rfl (fun t' ht' => ?_)
    refine gn (fun t H n => t 2 = .sc (.int .i64 v2) ∧ t 4 = .own b1 0 ∧ t 5 = .tup [.sc (.bool true), .sc (.int .i64 (v3 : Int)), .sc (.int .i32 ((Utf8.decode a0 v3).1 : Int))] ∧ H b1 = some (.iter a0 (v3 + (Utf8.decode a0 v3).2)) ∧ b1 < n) (j3 (by simp [ht', q]) ⟨upd_same _ _ _, q.2.2.2⟩) fun t H n q => ?_
    apply eY 3; simp [q]
    refine cd true (by simp [q]) (fun hb => ?_) (fun hb => by cases hb)
    apply eY 8; simp [q]
    exact lm (hJ1 _ _ _ _ ⟨(IntKind.i64.wrap (v2 + 1)), (v3 + (Utf8.decode a0 v3).2), h, by simp [q]⟩)
  · have h := cF hb6 h
    refine Stk.om (mop_nextF q.2.1 q.2.2.1 (of_decide_eq_false hb6)) (by simp [q]) rfl (fun t' ht' => ?_)
    refine gn (fun t H n => t 2 = .sc (.int .i64 v2) ∧ t 4 = .own b1 0 ∧ t 5 = .tup [.sc (.bool false)] ∧ H b1 = some (.iter a0 v3) ∧ b1 < n) (j3 (by simp [ht', q]) ⟨q.2.2.1, q.2.2.2⟩) fun t H n q => ?_
    apply eY 3; simp [q]
    refine cd false (by simp [q]) (fun hb => by cases hb) (fun hb => ?_)
    refine Stk.ex rfl ?_
    apply eY 6; simp [q]
    obtain rfl := sj h
    exact (hF hr (by simp [q]) rfl).1
theorem ok_u8_ValidRune (F : Nat) (a0 : Int) (r : Bool) (h : u8_ValidRune F a0 = some r) : RunF Tryz.prog T.T 209 [.sc (.int .i32 a0)] (.sc (.bool r)) := by
  rw [u8_ValidRune] at h
  refine RunF.z Tryz.func209 rfl rfl rfl rfl rfl (fun C hr => ?_)
  refine gn (fun t H n => t 0 = .sc (.int .i32 a0)) (by simp) fun t H n q => ?_
  apply eY 11; simp [q]
  refine Stk.gd 3 6 9 (fun z => .sc (.bool (z && (decide (a0 < 55296))))) (w := decide (0 ≤ a0)) (by simp [q]) (by simp [q]) (by simp [q]) ?_; simp [q]
  apply eY 2; simp [q]
  refine cd ((decide (0 ≤ a0)) && (decide (a0 < 55296))) (by simp [q]) (fun hb1 => ?_) (fun hb1 => ?_)
  ·have h := cT hb1 h
   apply eY 5; simp [q]
   obtain rfl := sj h
   exact (hF hr (by simp [q]) rfl).1
  ·have h := cF hb1 h
   apply eY 5; simp [q]
   refine Stk.gd 3 13 16 (fun z => .sc (.bool (z && (decide (a0 ≤ 1114111))))) (w := decide (57343 < a0)) (by simp [q]) (by simp [q]) (by simp [q]) ?_; simp [q]
   apply eY 2; simp [q]
   refine cd ((decide (57343 < a0)) && (decide (a0 ≤ 1114111))) (by simp [q]) (fun hb2 => ?_) (fun hb2 => ?_)
   ·have h := cT hb2 h
    apply eY 5; simp [q]
    obtain rfl := sj h
    exact (hF hr (by simp [q]) rfl).1
   ·have h := cF hb2 h
    apply eY 7; simp [q]
    obtain rfl := sj h
    exact (hF hr (by simp [q]) rfl).1
theorem ok_runes_Low (F : Nat) (a0 : Int) (r : Bool) (h : runes_Low F a0 = some r) : RunF Tryz.prog T.T 201 [.sc (.int .i32 a0)] (.sc (.bool r)) := by
  rw [runes_Low] at h
  refine RunF.z Tryz.func201 rfl rfl rfl rfl rfl (fun C hr => ?_)
  refine gn (fun t H n => t 0 = .sc (.int .i32 a0)) (by simp) fun t H n q => ?_
  apply eY 9; simp [q]
  refine Stk.gd 3 5 8 (fun z => .sc (.bool (z && (decide (a0 ≤ 122))))) (w := decide (97 ≤ a0)) (by simp [q]) (by simp [q]) (by simp [q]) ?_; simp [q]
  apply eY 1; simp [q]
  refine gn (fun t H n => t 0 = .sc (.int .i32 a0) ∧ t 9 = .sc (.bool ((decide (97 ≤ a0)) && (decide (a0 ≤ 122))))) (by simp [q]) fun t H n q => ?_
  obtain ⟨K1, hK1, h⟩ := jnd h
  refine Stk.jo 7 (fun t H n => ∃ v1 : Bool, K1 v1 = some r ∧ t 16 = .sc (.bool v1)) (fun J1 hJ1 => ?_) ?_
  · rcases Bool.eq_false_or_eq_true ((decide (97 ≤ a0)) && (decide (a0 ≤ 122))) with hb1 | hb1
    · obtain ⟨f0, f9⟩ := q
      rw [hb1] at f9
      replace h := cT hb1 h
      apply eY 8; simp [f0, f9]
      exact l0 (hJ1 _ _ _ ⟨true, h, by simp [f0, f9]⟩)
    · obtain ⟨f0, f9⟩ := q
      rw [hb1] at f9
      replace h := cF hb1 h
      apply eY 3; simp [f0, f9]
      refine gn (fun t H n => t 0 = .sc (.int .i32 a0) ∧ t 9 = .sc (.bool false) ∧ t 12 = .sc (.bool (decide (128 ≤ a0)))) (by and_intros <;> first | assumption | simp [f0, f9]) fun t H n q => ?_
      obtain ⟨K2, hK2, h⟩ := jnd h
      refine Stk.jo 3 (fun t H n => ∃ v2 : Bool, K2 v2 = some r ∧ t 9 = .sc (.bool false) ∧ t 15 = .sc (.bool v2)) (fun J2 hJ2 => ?_) ?_
      · rcases Bool.eq_false_or_eq_true (decide (128 ≤ a0)) with hb2 | hb2
        · obtain ⟨f0, f9, f12⟩ := q
          rw [hb2] at f12
          replace h := cT hb2 h
          obtain ⟨x3, hx3, h⟩ := bnd h
          apply eY 1; simp [f0, f9, f12]
          refine cw (ok_u8_ValidRune F _ _ hx3) (by simp [f0, f9, f12]) rfl rfl (by simp [f0, f9, f12]) (.cons (.free (rfl)) (.nil)) rfl ?_
          rintro _ rfl
          apply eY 2; simp [f0, f9, f12]
          exact l0 (hJ2 _ _ _ ⟨x3, h, by and_intros <;> first | assumption | simp [f0, f9, f12]⟩)
        · obtain ⟨f0, f9, f12⟩ := q
          rw [hb2] at f12
          replace h := cF hb2 h
          apply eY 4; simp [f0, f9, f12]
          exact l0 (hJ2 _ _ _ ⟨false, h, by and_intros <;> first | assumption | simp [f0, f9, f12]⟩)
      clear q h
      rintro t H n ⟨v2, h, q⟩
      subst hK2
      apply eY 2; simp [q]
      exact l0 (hJ1 _ _ _ ⟨v2, h, by simp [q]⟩)
  clear q h
  rintro t H n ⟨v1, h, q⟩
  subst hK1
  apply eY 3; simp [q]
  obtain rfl := sj h
  exact (hF hr (by simp [q]) rfl).1
theorem ok_runes_Up (F : Nat) (a0 : Int) (r : Bool) (h : runes_Up F a0 = some r) : RunF Tryz.prog T.T 200 [.sc (.int .i32 a0)] (.sc (.bool r)) := by
  rw [runes_Up] at h
  refine RunF.z Tryz.func200 rfl rfl rfl rfl rfl (fun C hr => ?_)
  refine gn (fun t H n => t 0 = .sc (.int .i32 a0)) (by simp) fun t H n q => ?_
  apply eY 9; simp [q]
  refine Stk.gd 3 5 8 (fun z => .sc (.bool (z && (decide (a0 ≤ 90))))) (w := decide (65 ≤ a0)) (by simp [q]) (by simp [q]) (by simp [q]) ?_; simp [q]
  apply eY 3; simp [q]
  obtain rfl := sj h
  exact (hF hr (by simp [q]) rfl).1
theorem ok_runes_Digit (F : Nat) (a0 : Int) (r : Bool) (h : runes_Digit F a0 = some r) : RunF Tryz.prog T.T 208 [.sc (.int .i32 a0)] (.sc (.bool r)) := by
  rw [runes_Digit] at h
  refine RunF.z Tryz.func208 rfl rfl rfl rfl rfl (fun C hr => ?_)
  refine gn (fun t H n => t 0 = .sc (.int .i32 a0)) (by simp) fun t H n q => ?_
  apply eY 9; simp [q]
  refine Stk.gd 3 5 8 (fun z => .sc (.bool (z && (decide (a0 ≤ 57))))) (w := decide (48 ≤ a0)) (by simp [q]) (by simp [q]) (by simp [q]) ?_; simp [q]
  apply eY 3; simp [q]
  obtain rfl := sj h
  exact (hF hr (by simp [q]) rfl).1
theorem ok_lex_part (F : Nat) (a0 : Int) (r : Bool) (h : lex_part F a0 = some r) : RunF Tryz.prog T.T 199 [.sc (.int .i32 a0)] (.sc (.bool r)) := by
  rw [lex_part] at h
  refine RunF.z Tryz.func199 rfl rfl rfl rfl rfl (fun C hr => ?_)
  refine gn (fun t H n => t 0 = .sc (.int .i32 a0)) (by simp) fun t H n q => ?_
  obtain ⟨x1, hx1, h⟩ := bnd h
  apply eY 7; simp [q]
  refine cw (ok_runes_Low F _ _ hx1) (by simp [q]) rfl rfl (by simp [q]) (.cons (.free (rfl)) (.nil)) rfl ?_
  rintro _ rfl
  apply eY 1; simp [q]
  refine gn (fun t H n => t 0 = .sc (.int .i32 a0) ∧ t 5 = .sc (.bool x1)) (by simp [q]) fun t H n q => ?_
  obtain ⟨K1, hK1, h⟩ := jnd h
  refine Stk.jo 3 (fun t H n => ∃ v2 : Bool, K1 v2 = some r ∧ t 0 = .sc (.int .i32 a0) ∧ t 8 = .sc (.bool v2)) (fun J1 hJ1 => ?_) ?_
  · rcases Bool.eq_false_or_eq_true x1 with hb1 | hb1
    · obtain ⟨f0, f5⟩ := q
      rw [hb1] at f5
      replace h := cT hb1 h
      apply eY 4; simp [f0, f5]
      exact l0 (hJ1 _ _ _ ⟨true, h, by and_intros <;> first | assumption | simp [f0, f5]⟩)
    · obtain ⟨f0, f5⟩ := q
      rw [hb1] at f5
      replace h := cF hb1 h
      obtain ⟨x3, hx3, h⟩ := bnd h
      apply eY 1; simp [f0, f5]
      refine cw (ok_runes_Up F _ _ hx3) (by simp [f0, f5]) rfl rfl (by simp [f0, f5]) (.cons (.free (rfl)) (.nil)) rfl ?_
      rintro _ rfl
      apply eY 2; simp [f0, f5]
      exact l0 (hJ1 _ _ _ ⟨x3, h, by and_intros <;> first | assumption | simp [f0, f5]⟩)
  clear q h
  rintro t H n ⟨v2, h, q⟩
  subst hK1
  apply eY 1; simp [q]
  refine gn (fun t H n => t 0 = .sc (.int .i32 a0) ∧ t 9 = .sc (.bool v2)) (by simp [q]) fun t H n q => ?_
  obtain ⟨K2, hK2, h⟩ := jnd h
  refine Stk.jo 3 (fun t H n => ∃ v4 : Bool, K2 v4 = some r ∧ t 0 = .sc (.int .i32 a0) ∧ t 12 = .sc (.bool v4)) (fun J2 hJ2 => ?_) ?_
  · rcases Bool.eq_false_or_eq_true v2 with hb2 | hb2
    · obtain ⟨f0, f9⟩ := q
      rw [hb2] at f9
      replace h := cT hb2 h
      apply eY 4; simp [f0, f9]
      exact l0 (hJ2 _ _ _ ⟨true, h, by and_intros <;> first | assumption | simp [f0, f9]⟩)
    · obtain ⟨f0, f9⟩ := q
      rw [hb2] at f9
      replace h := cF hb2 h
      obtain ⟨x5, hx5, h⟩ := bnd h
      apply eY 1; simp [f0, f9]
      refine cw (ok_runes_Digit F _ _ hx5) (by simp [f0, f9]) rfl rfl (by simp [f0, f9]) (.cons (.free (rfl)) (.nil)) rfl ?_
      rintro _ rfl
      apply eY 2; simp [f0, f9]
      exact l0 (hJ2 _ _ _ ⟨x5, h, by and_intros <;> first | assumption | simp [f0, f9]⟩)
  clear q h
  rintro t H n ⟨v4, h, q⟩
  subst hK2
  apply eY 1; simp [q]
  refine Stk.gd 3 13 16 (fun z => .sc (.bool (z || (a0 == 95)))) (w := v4) (by simp [q]) (by simp [q]) (by simp [q]) ?_; simp [q]
  apply eY 3; simp [q]
  obtain rfl := sj h
  exact (hF hr (by simp [q]) rfl).1
@[simp] abbrev Q7_2 (a1 : Bool) (b8 : Nat) (t : Nat → AV) (n : Nat) : Prop := t 1 = .sc (.bool a1) ∧ t 24 = .own b8 0 ∧ b8 < n
theorem ok_lex_Named (F : Nat) (a0 : ByteArray) (a1 : Bool) (r : Bool) (h : lex_Named F a0 a1 = some r) : RunF Tryz.prog T.T 172 [.sc (.string a0), .sc (.bool a1)] (.sc (.bool r)) := by
  rw [lex_Named] at h
  refine RunF.z Tryz.func172 rfl rfl rfl rfl rfl (fun C hr => ?_)
  refine gn (fun t H n => t 0 = .sc (.string a0) ∧ t 1 = .sc (.bool a1)) ⟨by simp, by simp⟩ fun t H n q => ?_
  apply eY 10; simp [q]
  refine gn (fun t H n => t 0 = .sc (.string a0) ∧ t 1 = .sc (.bool a1) ∧ t 9 = .sc (.bool (a0.toList == (⟨#[]⟩ : ByteArray).toList))) (by simp [q]) fun t H n q => ?_
  obtain ⟨K1, hK1, h⟩ := jnd h
  refine Stk.jo 3 (fun t H n => ∃ v1 : Bool, K1 v1 = some r ∧ t 0 = .sc (.string a0) ∧ t 1 = .sc (.bool a1) ∧ t 12 = .sc (.bool v1)) (fun J1 hJ1 => ?_) ?_
  · rcases Bool.eq_false_or_eq_true (a0.toList == (⟨#[]⟩ : ByteArray).toList) with hb1 | hb1
    · obtain ⟨f0, f1, f9⟩ := q
      rw [hb1] at f9
      replace h := cT hb1 h
      apply eY 4; simp [f0, f1, f9]
      exact l0 (hJ1 _ _ _ ⟨true, h, by and_intros <;> first | assumption | simp [f0, f1, f9]⟩)
    · obtain ⟨f0, f1, f9⟩ := q
      rw [hb1] at f9
      replace h := cF hb1 h
      obtain ⟨x2, hx2, h⟩ := bnd h
      apply eY 1; simp [f0, f1, f9]
      refine cw (ok_lex_Word F _ _ hx2) (by simp [f0, f1, f9]) rfl rfl (by simp [f0, f1, f9]) (.cons (.free (rfl)) (.nil)) rfl ?_
      rintro _ rfl
      apply eY 2; simp [f0, f1, f9]
      exact l0 (hJ1 _ _ _ ⟨x2, h, by and_intros <;> first | assumption | simp [f0, f1, f9]⟩)
  clear q h
  rintro t H n ⟨v1, h, q⟩
  subst hK1
  apply eY 1; simp [q]
  refine gn (fun t H n => t 0 = .sc (.string a0) ∧ t 1 = .sc (.bool a1) ∧ t 13 = .sc (.bool v1)) (by simp [q]) fun t H n q => ?_
  obtain ⟨K2, hK2, h⟩ := jnd h
  refine Stk.jo 4 (fun t H n => ∃ v3 : Bool, K2 v3 = some r ∧ t 0 = .sc (.string a0) ∧ t 1 = .sc (.bool a1) ∧ t 17 = .sc (.bool v3)) (fun J2 hJ2 => ?_) ?_
  · rcases Bool.eq_false_or_eq_true v1 with hb2 | hb2
    · obtain ⟨f0, f1, f13⟩ := q
      rw [hb2] at f13
      replace h := cT hb2 h
      apply eY 5; simp [f0, f1, f13]
      exact l0 (hJ2 _ _ _ ⟨true, h, by and_intros <;> first | assumption | simp [f0, f1, f13]⟩)
    · obtain ⟨f0, f1, f13⟩ := q
      rw [hb2] at f13
      replace h := cF hb2 h
      obtain ⟨x4, hx4, h⟩ := bnd h
      apply eY 1; simp [f0, f1, f13]
      refine cw (ok_u8_ValidString F _ _ hx4) (by simp [f0, f1, f13]) rfl rfl (by simp [f0, f1, f13]) (.cons (.free (rfl)) (.nil)) rfl ?_
      rintro _ rfl
      apply eY 3; simp [f0, f1, f13]
      exact l0 (hJ2 _ _ _ ⟨(!x4), h, by and_intros <;> first | assumption | simp [f0, f1, f13]⟩)
  clear q h
  rintro t H n ⟨v3, h, q⟩
  subst hK2
  apply eY 1; simp [q]
  refine gn (fun t H n => t 0 = .sc (.string a0) ∧ t 1 = .sc (.bool a1) ∧ t 18 = .sc (.bool v3)) (by simp [q]) fun t H n q => ?_
  obtain ⟨K3, hK3, h⟩ := jnd h
  refine Stk.jo 4 (fun t H n => ∃ v5 : Bool, K3 v5 = some r ∧ t 0 = .sc (.string a0) ∧ t 1 = .sc (.bool a1) ∧ t 22 = .sc (.bool v5)) (fun J3 hJ3 => ?_) ?_
  · rcases Bool.eq_false_or_eq_true v3 with hb3 | hb3
    · obtain ⟨f0, f1, f18⟩ := q
      rw [hb3] at f18
      replace h := cT hb3 h
      apply eY 5; simp [f0, f1, f18]
      exact l0 (hJ3 _ _ _ ⟨true, h, by and_intros <;> first | assumption | simp [f0, f1, f18]⟩)
    · obtain ⟨f0, f1, f18⟩ := q
      rw [hb3] at f18
      replace h := cF hb3 h
      obtain ⟨x6, hx6, h⟩ := bnd h
      apply eY 1; simp [f0, f1, f18]
      refine cw (ok_u8_RuneCountInString F _ _ hx6) (by simp [f0, f1, f18]) rfl rfl (by simp [f0, f1, f18]) (.cons (.free (rfl)) (.nil)) rfl ?_
      rintro _ rfl
      apply eY 3; simp [f0, f1, f18]
      exact l0 (hJ3 _ _ _ ⟨(decide (24 < x6)), h, by and_intros <;> first | assumption | simp [f0, f1, f18]⟩)
  clear q h
  rintro t H n ⟨v5, h, q⟩
  subst hK3
  apply eY 1; simp [q]
  refine cd v5 (by simp [q]) (fun hb7 => ?_) (fun hb7 => ?_)
  ·have h := cT hb7 h
   apply eY 5; simp [q]
   obtain rfl := sj h
   exact (hF hr (by simp [q]) rfl).1
  ·have h := cF hb7 h
   apply eY 5; simp [q]
   refine gn (fun t H n => t 1 = .sc (.bool a1) ∧ t 23 = .sc (.string a0)) (by simp [q]) fun t H n q => ?_
   refine Stk.om (mop_range T.t9 rfl q.2) (by simp [q]) rfl (fun t' ht' => ?_)
   refine gn (fun t H n => ∃ b8, t 1 = .sc (.bool a1) ∧ t 24 = .own b8 0 ∧ H b8 = some (.iter a0 0) ∧ b8 < n) ⟨n, j2 (by simp [ht', q]) ⟨upd_same _ _ _, Nat.lt_succ_self _⟩⟩ fun t H n ⟨b8, q⟩ => ?_
   apply eY 2; simp [q]
   refine gn (fun t H n => Q7_2 a1 b8 t n ∧ H b8 = some (.iter a0 0)) (by simp [q]) fun t H n q => ?_
   refine Stk.lo (fun μ t H n => ∃ v9 : Nat, lex_Named_L0 F a0 a1 μ v9 = some r ∧ t 1 = .sc (.bool a1) ∧ t 24 = .own b8 0 ∧ H b8 = some (.iter a0 v9) ∧ b8 < n) F ⟨0, h, q.1.1, q.1.2.1, q.2, q.1.2.2⟩ ?_
   clear q h
   rintro J4 hJ4 μ t H n ⟨v9, h, q⟩
   cases μ with
   | zero => exact absurd h (by simp [lex_Named_L0])
   | succ μ =>
   rw [lex_Named_L0] at h
   apply eY 2; simp [q]
   refine gn (fun t H n => Q7_2 a1 b8 t n ∧ H b8 = some (.iter a0 v9)) (by simp [q]) fun t H n q => ?_
   rcases Bool.eq_false_or_eq_true (decide (v9 < a0.size)) with hb11 | hb11
   · have h := cT hb11 h
     refine Stk.om (mop_nextT q.1.2.1 q.2 (of_decide_eq_true hb11)) (by simp [q]) rfl (fun t' ht' => ?_)
     refine gn (fun t H n => Q7_2 a1 b8 t n ∧ t 25 = .tup [.sc (.bool true), .sc (.int .i64 (v9 : Int)), .sc (.int .i32 ((Utf8.decode a0 v9).1 : Int))] ∧ H b8 = some (.iter a0 (v9 + (Utf8.decode a0 v9).2))) (j2 (by simp [ht', q]) (upd_same _ _ _)) fun t H n q => ?_
     apply eY 3; simp [q]
     refine cd true (by simp [q]) (fun hb => ?_) (fun hb => by cases hb)
     obtain ⟨x12, hx12, h⟩ := bnd h
     apply eY 12; simp [q]
     refine cw (ok_lex_part F _ _ hx12) (by simp [q]) rfl rfl (by simp [q]) (.cons (.free (rfl)) (.nil)) rfl ?_
     rintro _ rfl
     apply eY 2; simp [q]
     refine gn (fun t H n => Q7_2 a1 b8 t n ∧ t 5 = .sc (.int .i64 (v9 : Int)) ∧ t 6 = .sc (.int .i32 ((Utf8.decode a0 v9).1 : Int)) ∧ t 32 = .sc (.bool (!x12)) ∧ H b8 = some (.iter a0 (v9 + (Utf8.decode a0 v9).2))) (by simp [q]) fun t H n q => ?_
     obtain ⟨K5, hK5, h⟩ := jnd h
     refine Stk.jo 20 (fun t H n => ∃ v13 : Bool, K5 v13 = some r ∧ t 1 = .sc (.bool a1) ∧ t 24 = .own b8 0 ∧ t 52 = .sc (.bool v13) ∧ H b8 = some (.iter a0 (v9 + (Utf8.decode a0 v9).2)) ∧ b8 < n) (fun J5 hJ5 => ?_) ?_
     · rcases Bool.eq_false_or_eq_true (!x12) with hb5 | hb5
       · obtain ⟨⟨f1, f24, l_b8⟩, f5, f6, f32, b_b8⟩ := q
         rw [hb5] at f32
         replace h := cT hb5 h
         apply eY 21; simp [f1, f5, f6, f24, f32, b_b8]
         exact l0 (hJ5 _ _ _ ⟨true, h, by and_intros <;> first | assumption | simp [f1, f5, f6, f24, f32, b_b8]⟩)
       · obtain ⟨⟨f1, f24, l_b8⟩, f5, f6, f32, b_b8⟩ := q
         rw [hb5] at f32
         replace h := cF hb5 h
         apply eY 3; simp [f1, f5, f6, f24, f32, b_b8]
         refine gn (fun t H n => Q7_2 a1 b8 t n ∧ t 6 = .sc (.int .i32 ((Utf8.decode a0 v9).1 : Int)) ∧ t 32 = .sc (.bool false) ∧ t 35 = .sc (.bool ((v9 : Int) == 0)) ∧ H b8 = some (.iter a0 (v9 + (Utf8.decode a0 v9).2))) (by simp [f1, f5, f6, f24, f32, b_b8, l_b8]) fun t H n q => ?_
         obtain ⟨K6, hK6, h⟩ := jnd h
         refine Stk.jo 16 (fun t H n => ∃ v14 : Bool, K6 v14 = some r ∧ t 1 = .sc (.bool a1) ∧ t 24 = .own b8 0 ∧ t 32 = .sc (.bool false) ∧ t 51 = .sc (.bool v14) ∧ H b8 = some (.iter a0 (v9 + (Utf8.decode a0 v9).2)) ∧ b8 < n) (fun J6 hJ6 => ?_) ?_
         · rcases Bool.eq_false_or_eq_true ((v9 : Int) == 0) with hb6 | hb6
           · obtain ⟨⟨f1, f24, l_b8⟩, f6, f32, f35, b_b8⟩ := q
             rw [hb6] at f35
             replace h := cT hb6 h
             apply eY 2; simp [f1, f6, f24, f32, f35, b_b8]
             refine gn (fun t H n => Q7_2 a1 b8 t n ∧ t 6 = .sc (.int .i32 ((Utf8.decode a0 v9).1 : Int)) ∧ t 32 = .sc (.bool false) ∧ t 35 = .sc (.bool true) ∧ t 37 = .sc (.bool a1) ∧ H b8 = some (.iter a0 (v9 + (Utf8.decode a0 v9).2))) (by simp [f1, f6, f24, f32, f35, b_b8, l_b8]) fun t H n q => ?_
             obtain ⟨K7, hK7, h⟩ := jnd h
             refine Stk.jo 4 (fun t H n => ∃ v15 : Bool, K7 v15 = some r ∧ t 1 = .sc (.bool a1) ∧ t 6 = .sc (.int .i32 ((Utf8.decode a0 v9).1 : Int)) ∧ t 24 = .own b8 0 ∧ t 32 = .sc (.bool false) ∧ t 35 = .sc (.bool true) ∧ t 41 = .sc (.bool v15) ∧ H b8 = some (.iter a0 (v9 + (Utf8.decode a0 v9).2)) ∧ b8 < n) (fun J7 hJ7 => ?_) ?_
             · rcases Bool.eq_false_or_eq_true a1 with hb7 | hb7
               · obtain ⟨⟨f1, f24, l_b8⟩, f6, f32, f35, f37, b_b8⟩ := q
                 rw [hb7] at f37
                 replace h := cT hb7 h
                 obtain ⟨x16, hx16, h⟩ := bnd h
                 apply eY 1; simp [f1, f6, f24, f32, f35, f37, b_b8]
                 refine cw (ok_runes_Up F _ _ hx16) (by simp [f1, f6, f24, f32, f35, f37, b_b8]) rfl rfl (by simp [f1, f6, f24, f32, f35, f37, b_b8]) (.cons (.free (rfl)) (.nil)) rfl ?_
                 rintro _ rfl
                 apply eY 3; simp [f1, f6, f24, f32, f35, f37, b_b8]
                 exact l0 (hJ7 _ _ _ ⟨(!x16), h, by and_intros <;> first | assumption | simp [f1, f6, f24, f32, f35, f37, b_b8]⟩)
               · obtain ⟨⟨f1, f24, l_b8⟩, f6, f32, f35, f37, b_b8⟩ := q
                 rw [hb7] at f37
                 replace h := cF hb7 h
                 apply eY 5; simp [f1, f6, f24, f32, f35, f37, b_b8]
                 exact l0 (hJ7 _ _ _ ⟨false, h, by and_intros <;> first | assumption | simp [f1, f6, f24, f32, f35, f37, b_b8]⟩)
             clear q h
             rintro t H n ⟨v15, h, q⟩
             subst hK7
             apply eY 1; simp [q]
             refine gn (fun t H n => Q7_2 a1 b8 t n ∧ t 6 = .sc (.int .i32 ((Utf8.decode a0 v9).1 : Int)) ∧ t 32 = .sc (.bool false) ∧ t 35 = .sc (.bool true) ∧ t 42 = .sc (.bool v15) ∧ H b8 = some (.iter a0 (v9 + (Utf8.decode a0 v9).2))) (by simp [q]) fun t H n q => ?_
             obtain ⟨K8, hK8, h⟩ := jnd h
             refine Stk.jo 8 (fun t H n => ∃ v17 : Bool, K8 v17 = some r ∧ t 1 = .sc (.bool a1) ∧ t 24 = .own b8 0 ∧ t 32 = .sc (.bool false) ∧ t 35 = .sc (.bool true) ∧ t 50 = .sc (.bool v17) ∧ H b8 = some (.iter a0 (v9 + (Utf8.decode a0 v9).2)) ∧ b8 < n) (fun J8 hJ8 => ?_) ?_
             · rcases Bool.eq_false_or_eq_true v15 with hb8 | hb8
               · obtain ⟨⟨f1, f24, l_b8⟩, f6, f32, f35, f42, b_b8⟩ := q
                 rw [hb8] at f42
                 replace h := cT hb8 h
                 apply eY 9; simp [f1, f6, f24, f32, f35, f42, b_b8]
                 exact l0 (hJ8 _ _ _ ⟨true, h, by and_intros <;> first | assumption | simp [f1, f6, f24, f32, f35, f42, b_b8]⟩)
               · obtain ⟨⟨f1, f24, l_b8⟩, f6, f32, f35, f42, b_b8⟩ := q
                 rw [hb8] at f42
                 replace h := cF hb8 h
                 apply eY 3; simp [f1, f6, f24, f32, f35, f42, b_b8]
                 refine gn (fun t H n => Q7_2 a1 b8 t n ∧ t 6 = .sc (.int .i32 ((Utf8.decode a0 v9).1 : Int)) ∧ t 32 = .sc (.bool false) ∧ t 35 = .sc (.bool true) ∧ t 42 = .sc (.bool false) ∧ t 45 = .sc (.bool (!a1)) ∧ H b8 = some (.iter a0 (v9 + (Utf8.decode a0 v9).2))) (by simp [f1, f6, f24, f32, f35, f42, b_b8, l_b8]) fun t H n q => ?_
                 obtain ⟨K9, hK9, h⟩ := jnd h
                 refine Stk.jo 4 (fun t H n => ∃ v18 : Bool, K9 v18 = some r ∧ t 1 = .sc (.bool a1) ∧ t 24 = .own b8 0 ∧ t 32 = .sc (.bool false) ∧ t 35 = .sc (.bool true) ∧ t 42 = .sc (.bool false) ∧ t 49 = .sc (.bool v18) ∧ H b8 = some (.iter a0 (v9 + (Utf8.decode a0 v9).2)) ∧ b8 < n) (fun J9 hJ9 => ?_) ?_
                 · rcases Bool.eq_false_or_eq_true (!a1) with hb9 | hb9
                   · obtain ⟨⟨f1, f24, l_b8⟩, f6, f32, f35, f42, f45, b_b8⟩ := q
                     rw [hb9] at f45
                     replace h := cT hb9 h
                     obtain ⟨x19, hx19, h⟩ := bnd h
                     apply eY 1; simp [f1, f6, f24, f32, f35, f42, f45, b_b8]
                     refine cw (ok_runes_Low F _ _ hx19) (by simp [f1, f6, f24, f32, f35, f42, f45, b_b8]) rfl rfl (by simp [f1, f6, f24, f32, f35, f42, f45, b_b8]) (.cons (.free (rfl)) (.nil)) rfl ?_
                     rintro _ rfl
                     apply eY 3; simp [f1, f6, f24, f32, f35, f42, f45, b_b8]
                     exact l0 (hJ9 _ _ _ ⟨(!x19), h, by and_intros <;> first | assumption | simp [f1, f6, f24, f32, f35, f42, f45, b_b8]⟩)
                   · obtain ⟨⟨f1, f24, l_b8⟩, f6, f32, f35, f42, f45, b_b8⟩ := q
                     rw [hb9] at f45
                     replace h := cF hb9 h
                     apply eY 5; simp [f1, f6, f24, f32, f35, f42, f45, b_b8]
                     exact l0 (hJ9 _ _ _ ⟨false, h, by and_intros <;> first | assumption | simp [f1, f6, f24, f32, f35, f42, f45, b_b8]⟩)
                 clear q h
                 rintro t H n ⟨v18, h, q⟩
                 subst hK9
                 apply eY 2; simp [q]
                 exact l0 (hJ8 _ _ _ ⟨v18, h, by simp [q]⟩)
             clear q h
             rintro t H n ⟨v17, h, q⟩
             subst hK8
             apply eY 2; simp [q]
             exact l0 (hJ6 _ _ _ ⟨v17, h, by simp [q]⟩)
           · obtain ⟨⟨f1, f24, l_b8⟩, f6, f32, f35, b_b8⟩ := q
             rw [hb6] at f35
             replace h := cF hb6 h
             apply eY 17; simp [f1, f6, f24, f32, f35, b_b8]
             exact l0 (hJ6 _ _ _ ⟨false, h, by and_intros <;> first | assumption | simp [f1, f6, f24, f32, f35, b_b8]⟩)
         clear q h
         rintro t H n ⟨v14, h, q⟩
         subst hK6
         apply eY 2; simp [q]
         exact l0 (hJ5 _ _ _ ⟨v14, h, by simp [q]⟩)
     clear q h
     rintro t H n ⟨v13, h, q⟩
     subst hK5
     apply eY 1; simp [q]
     refine cd v13 (by simp [q]) (fun hb20 => ?_) (fun hb20 => ?_)
     ·have h := cT hb20 h
      apply eY 5; simp [q]
      obtain rfl := sj h
      exact (hF hr (by simp [q]) rfl).1
     ·have h := cF hb20 h
      apply eY 2; simp [q]
      exact lm (hJ4 _ _ _ _ ⟨(v9 + (Utf8.decode a0 v9).2), h, by simp [q]⟩)
   · have h := cF hb11 h
     refine Stk.om (mop_nextF q.1.2.1 q.2 (of_decide_eq_false hb11)) (by simp [q]) rfl (fun t' ht' => ?_)
     refine gn (fun t H n => Q7_2 a1 b8 t n ∧ t 25 = .tup [.sc (.bool false)] ∧ H b8 = some (.iter a0 v9)) (by simp [ht', q]) fun t H n q => ?_
     apply eY 3; simp [q]
     refine cd false (by simp [q]) (fun hb => by cases hb) (fun hb => ?_)
     refine Stk.ex rfl ?_
     apply eY 5; simp [q]
     obtain rfl := sj h
     exact (hF hr (by simp [q]) rfl).1
theorem ok_ast_small (F : Nat) (a0 : ByteArray) (r : Bool) (h : ast_small F a0 = some r) : RunF Tryz.prog T.T 112 [.sc (.string a0)] (.sc (.bool r)) := by
  rw [ast_small] at h
  refine RunF.z Tryz.func112 rfl rfl rfl rfl rfl (fun C hr => ?_)
  refine gn (fun t H n => t 0 = .sc (.string a0)) (by simp) fun t H n q => ?_
  obtain ⟨x1, hx1, h⟩ := bnd h
  apply eY 7; simp [q]
  refine cw (ok_lex_Named F _ _ _ hx1) (by simp [q]) rfl rfl (by simp [q]) (.cons (.free (rfl)) (.cons (.free (rfl)) (.nil))) rfl ?_
  rintro _ rfl
  apply eY 3; simp [q]
  obtain rfl := sj h
  exact (hF hr (by simp [q]) rfl).1
theorem ok_ast_declared (F : Nat) (a0 : ByteArray) (r : Bool) (h : ast_declared F a0 = some r) : RunF Tryz.prog T.T 102 [.sc (.string a0)] (.sc (.bool r)) := by
  rw [ast_declared] at h
  refine RunF.z Tryz.func102 rfl rfl rfl rfl rfl (fun C hr => ?_)
  refine gn (fun t H n => t 0 = .sc (.string a0)) (by simp) fun t H n q => ?_
  obtain ⟨x1, hx1, h⟩ := bnd h
  apply eY 7; simp [q]
  refine cw (ok_ast_small F _ _ hx1) (by simp [q]) rfl rfl (by simp [q]) (.cons (.free (rfl)) (.nil)) rfl ?_
  rintro _ rfl
  apply eY 1; simp [q]
  refine Stk.gd 3 5 8 (fun z => .sc (.bool (z && (!(a0.toList == (⟨#[105, 110, 116]⟩ : ByteArray).toList))))) (w := x1) (by simp [q]) (by simp [q]) (by simp [q]) ?_; simp [q]
  apply eY 1; simp [q]
  refine Stk.gd 3 9 12 (fun z => .sc (.bool (z && (!(a0.toList == (⟨#[98, 121, 116, 101, 115]⟩ : ByteArray).toList))))) (w := (x1 && (!(a0.toList == (⟨#[105, 110, 116]⟩ : ByteArray).toList)))) (by simp [q]) (by simp [q]) (by simp [q]) ?_; simp [q]
  apply eY 3; simp [q]
  obtain rfl := sj h
  exact (hF hr (by simp [q]) rfl).1
theorem ok_sIxType (F : Nat) (a0 : (List AType)) (φ1 : AType → Option Bool) (g1 : FuncId) (first1 caps1 : List AV) (fr1 : freeL first1 = true ∧ freeL caps1 = true) (hφ1 : ∀ y0 r, φ1 y0 = some r → RunF Tryz.prog T.T g1 (first1 ++ [.agg (c26 y0)] ++ caps1) (.sc (.bool r))) (r : Int) (h : sIxType F a0 φ1 = some r) : RunF Tryz.prog T.T 187 [.ssl (encs c26 a0) a0.length false, .fn (.func g1) first1 caps1] (.sc (.int .i64 r)) := by
  rw [sIxType] at h
  refine RunF.z Tryz.func187 rfl rfl rfl rfl rfl (fun C hr => ?_)
  refine gn (fun t H n => t 0 = .ssl (encs c26 a0) a0.length false ∧ t 1 = .fn (.func g1) first1 caps1) ⟨by simp, by simp⟩ fun t H n q => ?_
  apply eY 12; simp [q]
  refine gn (fun t H n => t 0 = .ssl (encs c26 a0) a0.length false ∧ t 1 = .fn (.func g1) first1 caps1 ∧ t 7 = .sc (.int .i64 (a0.length : Int)) ∧ t 8 = .sc (.int .i64 0)) (by simp [q]) fun t H n q => ?_
  refine Stk.lo (fun μ t H n => ∃ v1 : Int, sIxType_L0 F a0 φ1 μ v1 = some r ∧ t 0 = .ssl (encs c26 a0) a0.length false ∧ t 1 = .fn (.func g1) first1 caps1 ∧ t 7 = .sc (.int .i64 (a0.length : Int)) ∧ t 8 = .sc (.int .i64 v1)) F ⟨0, h, q⟩ ?_
  clear q h
  rintro J1 hJ1 μ t H n ⟨v1, h, q⟩
  cases μ with
  | zero => exact absurd h (by simp [sIxType_L0])
  | succ μ =>
  rw [sIxType_L0] at h
  apply eY 5; simp [q]
  refine cd (decide (v1 < (a0.length : Int))) (by simp [q]) (fun hb3 => ?_) (fun hb3 => ?_)
  ·have h := cT hb3 h
   obtain ⟨x4, hx4, h⟩ := bnd h
   obtain ⟨i0x4, i1x4, i2x4, _⟩ := idx_ok hx4
   have ex4_0_26 : partOf T.T 26 (encs c26 a0) (v1.toNat * 3) = some (.agg (c26 x4)) := (part_elem0 (e := c26) (z := 3) (ty := 26) T.t26 (by decide) (by decide) hx4 0 (by decide)).trans (ld_26_0_26 _)
   obtain ⟨x5, hx5, h⟩ := bnd h
   apply eY 15; simp [q, i0x4, i1x4, pd26, ex4_0_26]
   refine Stk.cv (g := g1) (first := first1) (caps := caps1) (args := first1 ++ [.agg (c26 x4)] ++ caps1) (args' := first1 ++ [.agg (c26 x4)] ++ caps1) (v := .sc (.bool x5)) [] (hφ1 _ _ hx5) (by simp [q, i0x4, i1x4, pd26, ex4_0_26]) rfl (by simp [q, i0x4, i1x4, pd26, ex4_0_26]) (by simp [q, i0x4, i1x4, pd26, ex4_0_26]) (viewL_mid (x := [.agg (c26 x4)]) (y := [.agg (c26 x4)]) fr1.1 fr1.2 (.cons (.free (fr26 _)) (.nil))) (.inl ⟨rfl, rfl⟩) ?_
   rintro _ rfl
   apply eY 1; simp [q, i0x4, i1x4, pd26, ex4_0_26]
   refine cd x5 (by simp [q, i0x4, i1x4, pd26, ex4_0_26]) (fun hb6 => ?_) (fun hb6 => ?_)
   ·have h := cT hb6 h
    apply eY 6; simp [q, i0x4, i1x4, pd26, ex4_0_26]
    obtain rfl := sj h
    exact (hF hr (by simp [q, i0x4, i1x4, pd26, ex4_0_26]) rfl).1
   ·have h := cF hb6 h
    apply eY 6; simp [q, i0x4, i1x4, pd26, ex4_0_26]
    exact lm (hJ1 _ _ _ _ ⟨(IntKind.i64.wrap (v1 + 1)), h, by simp [q, i0x4, i1x4, pd26, ex4_0_26]⟩)
  ·have h := cF hb3 h
   refine Stk.ex rfl ?_
   apply eY 5; simp [q]
   obtain rfl := sj h
   exact (hF hr (by simp [q]) rfl).1
theorem ok_sCtType (F : Nat) (a0 : (List AType)) (φ1 : AType → Option Bool) (g1 : FuncId) (first1 caps1 : List AV) (fr1 : freeL first1 = true ∧ freeL caps1 = true) (hφ1 : ∀ y0 r, φ1 y0 = some r → RunF Tryz.prog T.T g1 (first1 ++ [.agg (c26 y0)] ++ caps1) (.sc (.bool r))) (r : Bool) (h : sCtType F a0 φ1 = some r) : RunF Tryz.prog T.T 135 [.ssl (encs c26 a0) a0.length false, .fn (.func g1) first1 caps1] (.sc (.bool r)) := by
  rw [sCtType] at h
  refine RunF.z Tryz.func135 rfl rfl rfl rfl rfl (fun C hr => ?_)
  refine gn (fun t H n => t 0 = .ssl (encs c26 a0) a0.length false ∧ t 1 = .fn (.func g1) first1 caps1) ⟨by simp, by simp⟩ fun t H n q => ?_
  obtain ⟨x1, hx1, h⟩ := bnd h
  apply eY 8; simp [q]
  refine cw (ok_sIxType F _ _ _ _ _ fr1 hφ1 _ hx1) (by simp [q]) rfl rfl (by simp [q]) (.cons (.free (freeL_encs fr26 _)) (.cons (.free (by simp [free, fr1])) (.nil))) rfl ?_
  rintro _ rfl
  apply eY 4; simp [q]
  obtain rfl := sj h
  exact (hF hr (by simp [q]) rfl).1
theorem ok_aev_AType_1 (F : Nat) (a0 : AType) (φ1 : AType → Option Bool) (g1 : FuncId) (first1 caps1 : List AV) (fr1 : freeL first1 = true ∧ freeL caps1 = true) (hφ1 : ∀ y0 r, φ1 y0 = some r → RunF Tryz.prog T.T g1 (first1 ++ [.agg (c26 y0)] ++ caps1) (.sc (.bool r))) (r : Bool) (h : aev_AType_1 F a0 φ1 = some r) : RunF Tryz.prog T.T 184 [.agg (c26 a0), .sh [.fn (.func g1) first1 caps1]] (.sc (.bool r)) := by
  rw [aev_AType_1] at h
  refine RunF.z Tryz.func184 rfl rfl rfl rfl rfl (fun C hr => ?_)
  refine gn (fun t H n => t 0 = .agg (c26 a0) ∧ t 1 = .sh [.fn (.func g1) first1 caps1]) ⟨by simp, by simp⟩ fun t H n q => ?_
  apply eY 2; simp [q]
  refine gn (fun t H n => t 0 = .agg (c26 a0) ∧ t 1 = .sh [.fn (.func g1) first1 caps1]) (by simp [q]) fun t H n q => ?_
  refine Stk.om (mop_box T.t26 (cs := c26 a0) (by show partOk (t 0) = true; rw [q.1]; rfl) (by show cellsOf (t 0) = _; rw [q.1]; rfl)) (by simp [q]) rfl (fun t' ht' => ?_)
  refine gn (fun t H n => ∃ b1, t 1 = .sh [.fn (.func g1) first1 caps1] ∧ t 2 = .own b1 0 ∧ H b1 = some (.cells (c26 a0) 26) ∧ b1 < n) ⟨n, j2 (by simp [ht', q]) ⟨upd_same _ _ _, Nat.lt_succ_self _⟩⟩ fun t H n ⟨b1, q⟩ => ?_
  obtain ⟨x2, hx2, h⟩ := bnd h
  apply eY 6; simp [q, ldF47, ld_26_0_26]
  refine Stk.cv (g := g1) (first := first1) (caps := caps1) (args := first1 ++ [.agg (c26 a0)] ++ caps1) (args' := first1 ++ [.agg (c26 a0)] ++ caps1) (v := .sc (.bool x2)) [] (hφ1 _ _ hx2) (by simp [q, ldF47, ld_26_0_26]) rfl (by simp [q, ldF47, ld_26_0_26]) (by simp [q, ldF47, ld_26_0_26]) (viewL_mid (x := [.agg (c26 a0)]) (y := [.agg (c26 a0)]) fr1.1 fr1.2 (.cons (.free (fr26 _)) (.nil))) (.inl ⟨rfl, rfl⟩) ?_
  rintro _ rfl
  apply eY 4; simp [q, ldF47, ld_26_0_26]
  obtain rfl := sj h
  exact (hF hr (by simp [q, ldF47, ld_26_0_26]) rfl).1
attribute [-simp] Go.Proofs.YtappiofmkoelnaaGreatDoorW.Ah.splice
open Go.Proofs.YtappiofmkoelnaaGreatDoorW.Ah Go.Proofs.YtappiofmkoelnaaGreatDoor
set_option linter.unusedVariables false
set_option linter.unusedSimpArgs false
set_option maxRecDepth 8000
attribute [local simp] T.t2 T.t3 T.t4 T.t9 T.t24 T.t26 T.t29 T.t31 T.t33 T.t47 T.t68 T.t87 T.t153 T.t157 List.range List.range.loop
attribute [-simp] appendAV fillAV
@[simp] abbrev Q8_1 (a0 : (List AType)) (a1 : Int) (a2 : Int) (t : Nat → AV) : Prop := t 0 = .ssl (encs c26 a0) a0.length false ∧ t 1 = .sc (.int .i64 a1) ∧ t 2 = .sc (.int .i64 a2)
theorem ok_aev_AType (F : Nat) (a0 : (List AType)) (a1 : Int) (a2 : Int) (φ3 : AType → Option Bool) (g3 : FuncId) (first3 caps3 : List AV) (fr3 : freeL first3 = true ∧ freeL caps3 = true) (hφ3 : ∀ y0 r, φ3 y0 = some r → RunF Tryz.prog T.T g3 (first3 ++ [.agg (c26 y0)] ++ caps3) (.sc (.bool r))) (r : Bool) (h : aev_AType F a0 a1 a2 φ3 = some r) : RunF Tryz.prog T.T 129 [.ssl (encs c26 a0) a0.length false, .sc (.int .i64 a1), .sc (.int .i64 a2), .fn (.func g3) first3 caps3] (.sc (.bool r)) := by
  rw [aev_AType] at h
  refine RunF.z Tryz.func129 rfl rfl rfl rfl rfl (fun C hr => ?_)
  refine gn (fun t H n => Q8_1 a0 a1 a2 t ∧ t 3 = .fn (.func g3) first3 caps3) ⟨⟨by simp, by simp, by simp⟩, by simp⟩ fun t H n q => ?_
  apply eY 2; simp [q]
  refine gn (fun t H n => Q8_1 a0 a1 a2 t ∧ t 3 = .fn (.func g3) first3 caps3) (by simp [q]) fun t H n q => ?_
  refine Stk.om (mop_box T.t47 (cs := [.fn (.func g3) first3 caps3]) (by show partOk (t 3) = true; rw [q.2]; rfl) (by show cellsOf (t 3) = _; rw [q.2]; rfl)) (by simp [q]) rfl (fun t' ht' => ?_)
  refine gn (fun t H n => ∃ b1, Q8_1 a0 a1 a2 t ∧ t 7 = .own b1 0 ∧ H b1 = some (.cells ([.fn (.func g3) first3 caps3]) 47) ∧ b1 < n) ⟨n, j2 (by simp [ht', q]) ⟨upd_same _ _ _, Nat.lt_succ_self _⟩⟩ fun t H n ⟨b1, ⟨f0, f1, f2⟩, f7, b_b1, l_b1⟩ => ?_
  apply eY 9; simp [f0, f1, f2, f7, b_b1]
  refine Stk.gd 5 13 18 (fun z => .sc (.bool (z && (decide ((a0.length : Int) ≤ a2))))) (w := decide (a1 ≤ (a0.length : Int))) (by simp [f0, f1, f2, f7, b_b1]) (by simp [f0, f1, f2, f7, b_b1]) (by simp [f0, f1, f2, f7, b_b1]) ?_; simp [f0, f1, f2, f7, b_b1]
  apply eY 1; simp [f0, f1, f2, f7, b_b1]
  refine gn (fun t H n => t 0 = .ssl (encs c26 a0) a0.length false ∧ t 7 = .own b1 0 ∧ t 19 = .sc (.bool ((decide (a1 ≤ (a0.length : Int))) && (decide ((a0.length : Int) ≤ a2)))) ∧ H b1 = some (.cells ([.fn (.func g3) first3 caps3]) 47) ∧ b1 < n) (by and_intros <;> first | assumption | simp [f0, f1, f2, f7, b_b1]) fun t H n q => ?_
  obtain ⟨K1, hK1, h⟩ := jnd h
  refine Stk.jo 5 (fun t H n => ∃ v2 : Bool, K1 v2 = some r ∧ t 24 = .sc (.bool v2)) (fun J1 hJ1 => ?_) ?_
  · rcases Bool.eq_false_or_eq_true ((decide (a1 ≤ (a0.length : Int))) && (decide ((a0.length : Int) ≤ a2))) with hb1 | hb1
    · obtain ⟨f0, f7, f19, b_b1, l_b1⟩ := q
      rw [hb1] at f19
      replace h := cT hb1 h
      obtain ⟨x3, hx3, h⟩ := bnd h
      apply eY 2; simp [f0, f7, f19, b_b1]
      refine Stk.cv (g := 135) (args := [.ssl (encs c26 a0) a0.length false, .fn (.func 184) [] [.own b1 0]]) (args' := [.ssl (encs c26 a0) a0.length false, .fn (.func 184) [] [.sh [.fn (.func g3) first3 caps3]]]) (v := .sc (.bool x3)) [b1] (ok_sCtType F _ _ 184 [] [.sh [.fn (.func g3) first3 caps3]] (by and_intros <;> first | assumption | simp [freeL, free, fr3]) (fun y0 r h => ok_aev_AType_1 F y0 _ _ _ _ fr3 hφ3 r h) _ hx3) (by simp [f0, f7, f19, b_b1]) rfl rfl (by simp [f0, f7, f19, b_b1]) (.cons (.free (freeL_encs fr26 _)) (.cons (.fn .nil (.cons (view_blk b_b1 (by simp) (by simp [freeL, free, fr3])) (.nil))) (.nil))) (.inr rfl) ?_
      rintro _ rfl
      apply eY 3; simp [f0, f7, f19, b_b1]
      exact l0 (hJ1 _ _ _ ⟨(!x3), h, by simp [f0, f7, f19, b_b1]⟩)
    · obtain ⟨f0, f7, f19, b_b1, l_b1⟩ := q
      rw [hb1] at f19
      replace h := cF hb1 h
      apply eY 6; simp [f0, f7, f19, b_b1]
      exact l0 (hJ1 _ _ _ ⟨false, h, by simp [f0, f7, f19, b_b1]⟩)
  clear q h
  rintro t H n ⟨v2, h, q⟩
  subst hK1
  apply eY 3; simp [q]
  obtain rfl := sj h
  exact (hF hr (by simp [q]) rfl).1
theorem okB_ad_fitType (F : Nat) (ρ51 : Int → AType → Option Bool) (hρ51 : ∀ a0 a1 r, ρ51 a0 a1 = some r → RunF Tryz.prog T.T 51 [.sc (.int .i64 a0), .agg (c26 a1)] (.sc (.bool r))) (a0 : Int) (a1 : AType) (r : Bool) (h : ad_fitType_B F ρ51 a0 a1 = some r) : RunF Tryz.prog T.T 51 [.sc (.int .i64 a0), .agg (c26 a1)] (.sc (.bool r)) := by
  rw [ad_fitType_B] at h
  refine RunF.z Tryz.func51 rfl rfl rfl rfl rfl (fun C hr => ?_)
  refine gn (fun t H n => t 0 = .sc (.int .i64 a0) ∧ t 1 = .agg (c26 a1)) ⟨by simp, by simp⟩ fun t H n q => ?_
  apply eY 2; simp [q]
  refine gn (fun t H n => t 0 = .sc (.int .i64 a0) ∧ t 1 = .agg (c26 a1)) (by simp [q]) fun t H n q => ?_
  refine Stk.om (mop_box T.t26 (cs := c26 a1) (by show partOk (t 1) = true; rw [q.2]; rfl) (by show cellsOf (t 1) = _; rw [q.2]; rfl)) (by simp [q]) rfl (fun t' ht' => ?_)
  refine gn (fun t H n => ∃ b1, t 0 = .sc (.int .i64 a0) ∧ t 3 = .own b1 0 ∧ H b1 = some (.cells (c26 a1) 26) ∧ b1 < n) ⟨n, j2 (by simp [ht', q]) ⟨upd_same _ _ _, Nat.lt_succ_self _⟩⟩ fun t H n ⟨b1, q⟩ => ?_
  apply eY 8; simp [q]
  refine cd (decide (a0 < 1)) (by simp [q]) (fun hb2 => ?_) (fun hb2 => ?_)
  ·have h := cT hb2 h
   apply eY 5; simp [q]
   obtain rfl := sj h
   exact (hF hr (by simp [q]) rfl).1
  ·have h := cF hb2 h
   apply eY 14; simp [q, ld_26_0_3]
   obtain ⟨K1, hK1, h⟩ := jnd h
   refine Stk.jn (fun t H n => ∃ v3 : Bool, K1 v3 = some r ∧ t 0 = .sc (.int .i64 a0) ∧ t 3 = .own b1 0 ∧ t 8 = .sc (.int .i64 a1.Kind) ∧ t 9 = .sc (.bool v3) ∧ H b1 = some (.cells (c26 a1) 26) ∧ b1 < n) trivial (fun J1 hJ1 => ?_) ?_
   · skip
     refine cd (a1.Kind == 0) (by simp [q, ld_26_0_3]) (fun hb4 => ?_) (fun hb4 => ?_)
     ·have h := cT hb4 h
      apply eY 1; simp [q, ld_26_0_3]
      exact l0 (hJ1 _ _ _ ⟨(a1.Kind == 0), h, by simp [q, ld_26_0_3]⟩)
     ·have h := cF hb4 h
      apply eY 4; simp [q, ld_26_0_3]
      exact l0 (hJ1 _ _ _ ⟨(a1.Kind == 1), h, by simp [q, ld_26_0_3]⟩)
   clear q h
   rintro t H n ⟨v3, h, q⟩
   subst hK1
   refine cd v3 (by simp [q]) (fun hb5 => ?_) (fun hb5 => ?_)
   ·have h := cT hb5 h
    apply eY 6; simp [q, ld_26_1_9]
    refine Stk.gd 5 15 20 (fun z => .sc (.bool (z && ((a1.Parts.length : Int) == 0)))) (w := (a1.Name.toList == (⟨#[]⟩ : ByteArray).toList)) (by simp [q, ld_26_1_9]) (by simp [q, ld_26_1_9, ld_26_2_24]) (by simp [q, ld_26_1_9, ld_26_2_24]) ?_; simp [q, ld_26_1_9]
    apply eY 3; simp [q, ld_26_1_9]
    obtain rfl := sj h
    exact (hF hr (by simp [q, ld_26_1_9]) rfl).1
   ·have h := cF hb5 h
    apply eY 5; simp [q]
    refine cd (a1.Kind == 2) (by simp [q]) (fun hb6 => ?_) (fun hb6 => ?_)
    ·have h := cT hb6 h
     obtain ⟨x7, hx7, h⟩ := bnd h
     apply eY 4; simp [q, ld_26_1_9]
     refine cw (ok_ast_declared F _ _ hx7) (by simp [q, ld_26_1_9]) rfl rfl (by simp [q, ld_26_1_9]) (.cons (.free (rfl)) (.nil)) rfl ?_
     rintro _ rfl
     apply eY 1; simp [q, ld_26_1_9]
     refine Stk.gd 5 26 31 (fun z => .sc (.bool (z && ((a1.Parts.length : Int) == 0)))) (w := x7) (by simp [q, ld_26_1_9]) (by simp [q, ld_26_1_9, ld_26_2_24]) (by simp [q, ld_26_1_9, ld_26_2_24]) ?_; simp [q, ld_26_1_9]
     apply eY 3; simp [q, ld_26_1_9]
     obtain rfl := sj h
     exact (hF hr (by simp [q, ld_26_1_9]) rfl).1
    ·have h := cF hb6 h
     apply eY 5; simp [q]
     refine cd (a1.Kind == 3) (by simp [q]) (fun hb8 => ?_) (fun hb8 => ?_)
     ·have h := cT hb8 h
      apply eY 6; simp [q, ld_26_1_9]
      refine gn (fun t H n => t 0 = .sc (.int .i64 a0) ∧ t 3 = .own b1 0 ∧ t 37 = .sc (.bool (a1.Name.toList == (⟨#[]⟩ : ByteArray).toList)) ∧ H b1 = some (.cells (c26 a1) 26) ∧ b1 < n) (by simp [q, ld_26_1_9]) fun t H n q => ?_
      obtain ⟨K2, hK2, h⟩ := jnd h
      refine Stk.jo 7 (fun t H n => ∃ v9 : Bool, K2 v9 = some r ∧ t 44 = .sc (.bool v9)) (fun J2 hJ2 => ?_) ?_
      · rcases Bool.eq_false_or_eq_true (a1.Name.toList == (⟨#[]⟩ : ByteArray).toList) with hb2 | hb2
        · obtain ⟨f0, f3, f37, b_b1, l_b1⟩ := q
          rw [hb2] at f37
          replace h := cT hb2 h
          obtain ⟨x10, hx10, h⟩ := bnd h
          apply eY 5; simp [f0, f3, f37, b_b1, ld_26_2_24]
          refine cw (ok_aev_AType F _ _ _ _ 51 [.sc (.int .i64 (IntKind.i64.wrap (a0 - 1)))] [] (by and_intros <;> first | assumption | simp [freeL, free]) (fun y0 r h => hρ51 _ y0 r h) _ hx10) (by simp [f0, f3, f37, b_b1, ld_26_2_24]) rfl rfl (by simp [f0, f3, f37, b_b1, ld_26_2_24]) (.cons (.free (freeL_encs fr26 _)) (.cons (.free (rfl)) (.cons (.free (rfl)) (.cons (.fn (.free (by simp [freeL, free])) (.nil)) (.nil))))) rfl ?_
          rintro _ rfl
          apply eY 2; simp [f0, f3, f37, b_b1, ld_26_2_24]
          exact l0 (hJ2 _ _ _ ⟨x10, h, by simp [f0, f3, f37, b_b1, ld_26_2_24]⟩)
        · obtain ⟨f0, f3, f37, b_b1, l_b1⟩ := q
          rw [hb2] at f37
          replace h := cF hb2 h
          apply eY 8; simp [f0, f3, f37, b_b1]
          exact l0 (hJ2 _ _ _ ⟨false, h, by simp [f0, f3, f37, b_b1]⟩)
      clear q h
      rintro t H n ⟨v9, h, q⟩
      subst hK2
      apply eY 3; simp [q]
      obtain rfl := sj h
      exact (hF hr (by simp [q]) rfl).1
     ·have h := cF hb8 h
      apply eY 7; simp [q]
      obtain rfl := sj h
      exact (hF hr (by simp [q]) rfl).1
theorem okG_ad_fitType : ∀ F : Nat, (∀ (a0 : Int) (a1 : AType) (r : Bool), ad_fitType F a0 a1 = some r → RunF Tryz.prog T.T 51 [.sc (.int .i64 a0), .agg (c26 a1)] (.sc (.bool r)))
  | 0 => (fun a0 a1 r h => by rw [ad_fitType] at h; cases h)
  | F + 1 => (fun a0 a1 r h => okB_ad_fitType F (ad_fitType F) (okG_ad_fitType F) a0 a1 r (by rw [ad_fitType] at h; exact h))
theorem ok_ad_fitType (F : Nat) (a0 : Int) (a1 : AType) (r : Bool) (h : ad_fitType F a0 a1 = some r) : RunF Tryz.prog T.T 51 [.sc (.int .i64 a0), .agg (c26 a1)] (.sc (.bool r)) := (okG_ad_fitType F) a0 a1 r h
theorem ok_ast_FitType (F : Nat) (a0 : AType) (r : Bool) (h : ast_FitType F a0 = some r) : RunF Tryz.prog T.T 18 [.agg (c26 a0)] (.sc (.bool r)) := by
  rw [ast_FitType] at h
  refine RunF.z Tryz.func18 rfl rfl rfl rfl rfl (fun C hr => ?_)
  refine gn (fun t H n => t 0 = .agg (c26 a0)) (by simp) fun t H n q => ?_
  apply eY 2; simp [q]
  refine gn (fun t H n => t 0 = .agg (c26 a0)) (by simp [q]) fun t H n q => ?_
  refine Stk.om (mop_box T.t26 (cs := c26 a0) (by show partOk (t 0) = true; rw [q]; rfl) (by show cellsOf (t 0) = _; rw [q]; rfl)) (by simp [q]) rfl (fun t' ht' => ?_)
  refine gn (fun t H n => ∃ b1, t 1 = .own b1 0 ∧ H b1 = some (.cells (c26 a0) 26) ∧ b1 < n) ⟨n, by simp [ht'], upd_same _ _ _, Nat.lt_succ_self _⟩ fun t H n ⟨b1, q⟩ => ?_
  obtain ⟨x2, hx2, h⟩ := bnd h
  apply eY 5; simp [q, ld_26_0_26]
  refine cw (ok_ad_fitType F _ _ _ hx2) (by simp [q, ld_26_0_26]) rfl rfl (by simp [q, ld_26_0_26]) (.cons (.free (rfl)) (.cons (.free (fr26 _)) (.nil))) rfl ?_
  rintro _ rfl
  apply eY 3; simp [q, ld_26_0_26]
  obtain rfl := sj h
  exact (hF hr (by simp [q, ld_26_0_26]) rfl).1
theorem ok_ast_number (F : Nat) (a0 : Int) (r : Bool) (h : ast_number F a0 = some r) : RunF Tryz.prog T.T 125 [.sc (.int .i64 a0)] (.sc (.bool r)) := by
  rw [ast_number] at h
  refine RunF.z Tryz.func125 rfl rfl rfl rfl rfl (fun C hr => ?_)
  refine gn (fun t H n => t 0 = .sc (.int .i64 a0)) (by simp) fun t H n q => ?_
  apply eY 9; simp [q]
  refine Stk.gd 3 5 8 (fun z => .sc (.bool (z && (decide ((-4611686018427387903) ≤ a0))))) (w := decide (a0 ≤ 4611686018427387903)) (by simp [q]) (by simp [q]) (by simp [q]) ?_; simp [q]
  apply eY 3; simp [q]
  obtain rfl := sj h
  exact (hF hr (by simp [q]) rfl).1
theorem ok_ast_great (F : Nat) (a0 : ByteArray) (r : Bool) (h : ast_great F a0 = some r) : RunF Tryz.prog T.T 126 [.sc (.string a0)] (.sc (.bool r)) := by
  rw [ast_great] at h
  refine RunF.z Tryz.func126 rfl rfl rfl rfl rfl (fun C hr => ?_)
  refine gn (fun t H n => t 0 = .sc (.string a0)) (by simp) fun t H n q => ?_
  obtain ⟨x1, hx1, h⟩ := bnd h
  apply eY 7; simp [q]
  refine cw (ok_lex_Named F _ _ _ hx1) (by simp [q]) rfl rfl (by simp [q]) (.cons (.free (rfl)) (.cons (.free (rfl)) (.nil))) rfl ?_
  rintro _ rfl
  apply eY 3; simp [q]
  obtain rfl := sj h
  exact (hF hr (by simp [q]) rfl).1
theorem ok_ast_called (F : Nat) (a0 : ByteArray) (r : Bool) (h : ast_called F a0 = some r) : RunF Tryz.prog T.T 107 [.sc (.string a0)] (.sc (.bool r)) := by
  rw [ast_called] at h
  refine RunF.z Tryz.func107 rfl rfl rfl rfl rfl (fun C hr => ?_)
  refine gn (fun t H n => t 0 = .sc (.string a0)) (by simp) fun t H n q => ?_
  apply eY 16; simp [q]
  obtain ⟨K1, hK1, h⟩ := jnd h
  refine Stk.jn (fun t H n => ∃ v1 : Bool, K1 v1 = some r ∧ t 0 = .sc (.string a0) ∧ t 4 = .sc (.bool v1)) trivial (fun J1 hJ1 => ?_) ?_
  · skip
    refine cd (a0.toList == (⟨#[105, 110, 116]⟩ : ByteArray).toList) (by simp [q]) (fun hb2 => ?_) (fun hb2 => ?_)
    ·have h := cT hb2 h
     apply eY 1; simp [q]
     exact l0 (hJ1 _ _ _ ⟨(a0.toList == (⟨#[105, 110, 116]⟩ : ByteArray).toList), h, by simp [q]⟩)
    ·have h := cF hb2 h
     apply eY 5; simp [q]
     refine cd (a0.toList == (⟨#[98, 121, 116, 101, 115]⟩ : ByteArray).toList) (by simp [q]) (fun hb3 => ?_) (fun hb3 => ?_)
     ·have h := cT hb3 h
      apply eY 1; simp [q]
      exact l0 (hJ1 _ _ _ ⟨(a0.toList == (⟨#[98, 121, 116, 101, 115]⟩ : ByteArray).toList), h, by simp [q]⟩)
     ·have h := cF hb3 h
      apply eY 5; simp [q]
      refine cd (a0.toList == (⟨#[108, 101, 110]⟩ : ByteArray).toList) (by simp [q]) (fun hb4 => ?_) (fun hb4 => ?_)
      ·have h := cT hb4 h
       apply eY 1; simp [q]
       exact l0 (hJ1 _ _ _ ⟨(a0.toList == (⟨#[108, 101, 110]⟩ : ByteArray).toList), h, by simp [q]⟩)
      ·have h := cF hb4 h
       apply eY 5; simp [q]
       refine cd (a0.toList == (⟨#[97, 116]⟩ : ByteArray).toList) (by simp [q]) (fun hb5 => ?_) (fun hb5 => ?_)
       ·have h := cT hb5 h
        apply eY 1; simp [q]
        exact l0 (hJ1 _ _ _ ⟨(a0.toList == (⟨#[97, 116]⟩ : ByteArray).toList), h, by simp [q]⟩)
       ·have h := cF hb5 h
        apply eY 5; simp [q]
        refine cd (a0.toList == (⟨#[99, 97, 116]⟩ : ByteArray).toList) (by simp [q]) (fun hb6 => ?_) (fun hb6 => ?_)
        ·have h := cT hb6 h
         apply eY 1; simp [q]
         exact l0 (hJ1 _ _ _ ⟨(a0.toList == (⟨#[99, 97, 116]⟩ : ByteArray).toList), h, by simp [q]⟩)
        ·have h := cF hb6 h
         apply eY 4; simp [q]
         exact l0 (hJ1 _ _ _ ⟨(a0.toList == (⟨#[99, 117, 116]⟩ : ByteArray).toList), h, by simp [q]⟩)
  clear q h
  rintro t H n ⟨v1, h, q⟩
  subst hK1
  refine cd v1 (by simp [q]) (fun hb7 => ?_) (fun hb7 => ?_)
  ·have h := cT hb7 h
   apply eY 5; simp [q]
   obtain rfl := sj h
   exact (hF hr (by simp [q]) rfl).1
  ·have h := cF hb7 h
   obtain ⟨x8, hx8, h⟩ := bnd h
   apply eY 5; simp [q]
   refine cw (ok_ast_small F _ _ hx8) (by simp [q]) rfl rfl (by simp [q]) (.cons (.free (rfl)) (.nil)) rfl ?_
   rintro _ rfl
   apply eY 3; simp [q]
   obtain rfl := sj h
   exact (hF hr (by simp [q]) rfl).1
theorem ok_ast_args (F : Nat) (a0 : Int) (r : Int) (h : ast_args F a0 = some r) : RunF Tryz.prog T.T 176 [.sc (.int .i64 a0)] (.sc (.int .i64 r)) := by
  rw [ast_args] at h
  refine RunF.z Tryz.func176 rfl rfl rfl rfl rfl (fun C hr => ?_)
  refine gn (fun t H n => t 0 = .sc (.int .i64 a0)) (by simp) fun t H n q => ?_
  apply eY 15; simp [q]
  refine cd (a0 == 8) (by simp [q]) (fun hb1 => ?_) (fun hb1 => ?_)
  ·have h := cT hb1 h
   apply eY 5; simp [q]
   obtain rfl := sj h
   exact (hF hr (by simp [q]) rfl).1
  ·have h := cF hb1 h
   apply eY 5; simp [q]
   refine cd (a0 == 11) (by simp [q]) (fun hb2 => ?_) (fun hb2 => ?_)
   ·have h := cT hb2 h
    apply eY 5; simp [q]
    obtain rfl := sj h
    exact (hF hr (by simp [q]) rfl).1
   ·have h := cF hb2 h
    apply eY 7; simp [q]
    obtain rfl := sj h
    exact (hF hr (by simp [q]) rfl).1
@[simp] abbrev Q8_2 (a0 : AExpr) (b1 : Nat) (b2 : Nat) (t : Nat → AV) (H : Mem) (n : Nat) : Prop := t 1 = .own b1 0 ∧ t 2 = .own b2 0 ∧ H b1 = some (.cells (c33 a0) 33) ∧ b1 < n ∧ H b2 = some (.cells (c153 (ast_shape.mk false false false 0 0 false)) 153) ∧ b2 < n ∧ b1 ≠ b2
@[simp] abbrev Q8_3 (b2 : Nat) (t : Nat → AV) (H : Mem) (n : Nat) : Prop := t 2 = .own b2 0 ∧ H b2 = some (.cells (c153 (ast_shape.mk false false false 0 0 false)) 153) ∧ b2 < n
@[simp] abbrev Q8_4 (b2 : Nat) (t : Nat → AV) (n : Nat) : Prop := t 2 = .own b2 0 ∧ b2 < n
theorem ok_ast_of (F : Nat) (a0 : AExpr) (r : (ast_shape × Bool)) (h : ast_of F a0 = some r) : RunF Tryz.prog T.T 120 [.agg (c33 a0)] (.tup [.agg (c153 r.1), .sc (.bool r.2)]) := by
  rw [ast_of] at h
  refine RunF.z Tryz.func120 rfl rfl rfl rfl rfl (fun C hr => ?_)
  refine gn (fun t H n => t 0 = .agg (c33 a0)) (by simp) fun t H n q => ?_
  apply eY 2; simp [q]
  refine gn (fun t H n => t 0 = .agg (c33 a0)) (by simp [q]) fun t H n q => ?_
  refine Stk.om (mop_box T.t33 (cs := c33 a0) (by show partOk (t 0) = true; rw [q]; rfl) (by show cellsOf (t 0) = _; rw [q]; rfl)) (by simp [q]) rfl (fun t' ht' => ?_)
  refine gn (fun t H n => ∃ b1, t 1 = .own b1 0 ∧ H b1 = some (.cells (c33 a0) 33) ∧ b1 < n) ⟨n, by simp [ht'], upd_same _ _ _, Nat.lt_succ_self _⟩ fun t H n ⟨b1, q⟩ => ?_
  refine Stk.om (mop_alloc T.t153 (cs := c153 (ast_shape.mk false false false 0 0 false)) rfl) (by simp [q]) rfl (fun t' ht' => ?_)
  refine gn (fun t H n => ∃ b2, t 1 = .own b1 0 ∧ t 2 = .own b2 0 ∧ H b1 = some (.cells (c33 a0) 33) ∧ b1 < n ∧ H b2 = some (.cells (c153 (ast_shape.mk false false false 0 0 false)) 153) ∧ b2 < n ∧ b1 ≠ b2) ⟨n, j2 (by simp [ht', q]) ⟨(upd_ne _ _ (Nat.ne_of_lt q.2.2)).trans q.2.1, Nat.lt_succ_of_lt q.2.2, upd_same _ _ _, Nat.lt_succ_self _, Nat.ne_of_lt q.2.2⟩⟩ fun t H n ⟨b2, q⟩ => ?_
  apply eY 14; simp [q, ld_33_0_3]
  refine cd (a0.Kind == 0) (by simp [q, ld_33_0_3]) (fun hb3 => ?_) (fun hb3 => ?_)
  ·have h := cT hb3 h
   apply eY 2; simp [q, ld_33_0_3]
   refine gn (fun t H n => Q8_2 a0 b1 b2 t H n ∧ t 6 = .sc (.int .i64 a0.Kind) ∧ t 7 = .sc (.bool (a0.Kind == 0))) (by simp [q, ld_33_0_3]) fun t H n q => ?_
   refine Stk.ov (vop_build T.t153 rfl rfl (cs := c153 (ast_shape.mk false false false 0 0 false)) (cs' := c153 (ast_shape.mk false true false 0 0 false)) rfl (.cons rfl rfl rfl rfl rfl (rfl) (by rw [len153]; decide) (st_153_1_4 _ _) (.nil))) (by simp [q]) rfl (fun t' ht' => ?_)
   refine gn (fun t H n => Q8_2 a0 b1 b2 t H n ∧ t 9 = .agg (c153 (ast_shape.mk false true false 0 0 false))) (by simp [ht', q]) fun t H n q => ?_
   obtain ⟨x4, hx4, h⟩ := bnd h
   apply eY 2; simp [q, ld_33_3_2]
   refine cw (ok_ast_number F _ _ hx4) (by simp [q, ld_33_3_2]) rfl rfl (by simp [q, ld_33_3_2]) (.cons (.free (rfl)) (.nil)) rfl ?_
   rintro _ rfl
   refine Stk.om (mop_store (z := 6) (o := 0) (v := .agg (c153 (ast_shape.mk false true false 0 0 false))) rfl (by simp [q, ld_33_3_2]) q.1.2.2.2.2.1 (by simp [q, ld_33_3_2]) (len153 _) (by rw [len153]; decide) (ok153 _) (st_153_0_153 _ _)) (by simp [q, ld_33_3_2]) rfl (fun t' ht' => ?_)
   refine gn (fun t H n => Q8_4 b2 t n ∧ t 12 = .sc (.bool x4) ∧ H b2 = some (.cells (c153 (ast_shape.mk false true false 0 0 false)) 153)) (j2 (by simp [ht', q, ld_33_3_2]) (upd_same _ _ _)) fun t H n q => ?_
   apply eY 3; simp [q]
   obtain rfl := sj h
   exact (hr _ _ _ (.tup [.agg (c153 (ast_shape.mk false true false 0 0 false)), .sc (.bool x4)]) ([]) (by simp [q, ld_153_0_153]) (.inr (.inr (.tup (.cons (.free (fr153 _)) (.cons (.free (rfl)) (.nil))))))).1
  ·have h := cF hb3 h
   apply eY 5; simp [q, ld_33_0_3]
   refine cd (a0.Kind == 1) (by simp [q, ld_33_0_3]) (fun hb5 => ?_) (fun hb5 => ?_)
   ·have h := cT hb5 h
    apply eY 1; simp [q, ld_33_0_3]
    refine gn (fun t H n => Q8_2 a0 b1 b2 t H n ∧ t 6 = .sc (.int .i64 a0.Kind) ∧ t 13 = .sc (.bool (a0.Kind == 1))) (by simp [q, ld_33_0_3]) fun t H n q => ?_
    obtain ⟨n0, hn0⟩ : ∃ m, m = n := ⟨n, rfl⟩
    have ln0 : n0 ≤ n := Nat.le_of_eq hn0
    refine Stk.rgD [.rd [], .rd [], .rd [b1], .rd [], .rd [], .mem [b2] n0, .rd []] none (by kernel_rfl) (drawOk2_ren [b1, b2] (by simp [q]) n0 [.rd [], .rd [], .rd [0], .rd [], .rd [], .mem [1] 0, .rd []] rfl (by rfl)) rfl (by simp [below, hn0, q, hn0]) rfl ?_
    refine Stk.ovD rfl (by simp [q]) rfl (vop_build T.t153 rfl rfl (cs := c153 (ast_shape.mk false false false 0 0 false)) (cs' := c153 (ast_shape.mk false false true 0 0 false)) rfl (.cons rfl rfl rfl rfl rfl (rfl) (by rw [len153]; decide) (st_153_2_4 _ _) (.nil))) (by simp [q]) rfl (fun t' ht' => ?_)
    refine gn (fun t H n => Q8_2 a0 b1 b2 t H n ∧ t 15 = .agg (c153 (ast_shape.mk false false true 0 0 false)) ∧ n0 ≤ n) (by simp [ht', q, ln0]) fun t H n q => ?_
    apply eY 4; simp [q, ld_33_4_29]
    refine gn (fun t H n => Q8_3 b2 t H n ∧ t 15 = .agg (c153 (ast_shape.mk false false true 0 0 false)) ∧ t 19 = .sc (.bool (decide ((a0.Bytes.length : Int) ≤ 64))) ∧ n0 ≤ n) (by simp [q, ld_33_4_29]) fun t H n q => ?_
    refine Stk.omD (S := [b2]) (b := n0) rfl (fun j hj hm => upd_ne _ _ (by simpa using hm)) rfl (mop_store (z := 6) rfl q.1.1 q.1.2.1 q.2.1 (len153 _) (by rw [len153]; decide) (ok153 _) (st_153_0_153 _ _)) (by simp [q]) rfl (fun t' ht' => ?_)
    refine gn (fun t H n => Q8_4 b2 t n ∧ t 19 = .sc (.bool (decide ((a0.Bytes.length : Int) ≤ 64))) ∧ H b2 = some (.cells (c153 (ast_shape.mk false false true 0 0 false)) 153) ∧ n0 ≤ n) (j2 (by simp [ht', q]) ⟨upd_same _ _ _, q.2.2.2⟩) fun t H n q => ?_
    apply eY 3; simp [q]
    obtain rfl := sj h
    exact (hr _ _ _ (.tup [.agg (c153 (ast_shape.mk false false true 0 0 false)), .sc (.bool (decide ((a0.Bytes.length : Int) ≤ 64)))]) ([]) (by simp [q, ld_153_0_153]) (.inr (.inr (.tup (.cons (.free (fr153 _)) (.cons (.free (rfl)) (.nil))))))).1
   ·have h := cF hb5 h
    apply eY 5; simp [q, ld_33_0_3]
    refine cd (a0.Kind == 2) (by simp [q, ld_33_0_3]) (fun hb6 => ?_) (fun hb6 => ?_)
    ·have h := cT hb6 h
     apply eY 1; simp [q, ld_33_0_3]
     refine gn (fun t H n => Q8_2 a0 b1 b2 t H n ∧ t 6 = .sc (.int .i64 a0.Kind) ∧ t 20 = .sc (.bool (a0.Kind == 2))) (by simp [q, ld_33_0_3]) fun t H n q => ?_
     obtain ⟨n0, hn0⟩ : ∃ m, m = n := ⟨n, rfl⟩
     have ln0 : n0 ≤ n := Nat.le_of_eq hn0
     refine Stk.rgD [.rd [], .rd [], .rd [b1], .rd [], .rd [], .rd [], .rd [b1], .rd [], .rd [], .mem [b2] n0, .rd []] none (by kernel_rfl) (drawOk2_ren [b1, b2] (by simp [q]) n0 [.rd [], .rd [], .rd [0], .rd [], .rd [], .rd [], .rd [0], .rd [], .rd [], .mem [1] 0, .rd []] rfl (by rfl)) rfl (by simp [below, hn0, q, hn0]) rfl ?_
     refine Stk.ovD rfl (by simp [q]) rfl (vop_build T.t153 rfl rfl (cs := c153 (ast_shape.mk false false false 0 0 false)) (cs' := c153 (ast_shape.mk true false false 0 0 false)) rfl (.cons rfl rfl rfl rfl rfl (rfl) (by rw [len153]; decide) (st_153_0_4 _ _) (.nil))) (by simp [q]) rfl (fun t' ht' => ?_)
     refine gn (fun t H n => Q8_2 a0 b1 b2 t H n ∧ t 22 = .agg (c153 (ast_shape.mk true false false 0 0 false)) ∧ n0 ≤ n) (by simp [ht', q, ln0]) fun t H n q => ?_
     obtain ⟨x7, hx7, h⟩ := bnd h
     apply eY 2; simp [q, ld_33_5_9]
     refine cx (ok_ast_small F _ _ hx7) rfl rfl (by simp [q, ld_33_5_9]) rfl rfl (by simp [q, ld_33_5_9]) (.cons (.free (rfl)) (.nil)) rfl ?_
     rintro _ rfl
     apply eY 1; simp [q, ld_33_5_9]
     refine gn (fun t H n => Q8_2 a0 b1 b2 t H n ∧ t 22 = .agg (c153 (ast_shape.mk true false false 0 0 false)) ∧ t 26 = .sc (.bool x7) ∧ n0 ≤ n) (by simp [q, ld_33_5_9]) fun t H n q => ?_
     refine Stk.jd 4 (fun t H n => t 2 = .own b2 0 ∧ t 22 = .agg (c153 (ast_shape.mk true false false 0 0 false)) ∧ t 30 = .sc (.bool (x7 || (a0.Name.toList == (⟨#[115, 116, 97, 116, 101]⟩ : ByteArray).toList))) ∧ H b2 = some (.cells (c153 (ast_shape.mk false false false 0 0 false)) 153) ∧ b2 < n ∧ n0 ≤ n) (fun J1 hJ1 => ?_) ?_
     · rcases Bool.eq_false_or_eq_true x7 with hb1 | hb1
       · obtain ⟨⟨f1, f2, b_b1, l_b1, b_b2, l_b2, d_b1_b2⟩, f22, f26, ln0⟩ := q
         rw [hb1] at f26
         apply eY 5; simp [f1, f2, f22, f26, b_b1, b_b2]
         refine gn (fun t H n => Q8_3 b2 t H n ∧ t 22 = .agg (c153 (ast_shape.mk true false false 0 0 false)) ∧ t 30 = .sc (.bool true) ∧ n0 ≤ n) (by simp [f1, f2, f22, f26, b_b1, b_b2, l_b2, ln0]) fun t H n q => ?_
         exact l0 (hJ1 _ _ _ ⟨q.1.1, q.2.1, q.2.2.1.trans (congrArg (fun q => AV.sc (.bool q)) (by rw [hb1]; rfl)), q.1.2.1, q.1.2.2, q.2.2.2⟩)
       · obtain ⟨⟨f1, f2, b_b1, l_b1, b_b2, l_b2, d_b1_b2⟩, f22, f26, ln0⟩ := q
         rw [hb1] at f26
         apply eY 5; simp [f1, f2, f22, f26, b_b1, b_b2, ld_33_5_9]
         refine gn (fun t H n => Q8_3 b2 t H n ∧ t 22 = .agg (c153 (ast_shape.mk true false false 0 0 false)) ∧ t 30 = .sc (.bool (a0.Name.toList == (⟨#[115, 116, 97, 116, 101]⟩ : ByteArray).toList)) ∧ n0 ≤ n) (by simp [f1, f2, f22, f26, b_b1, b_b2, ld_33_5_9, l_b2, ln0]) fun t H n q => ?_
         exact l0 (hJ1 _ _ _ ⟨q.1.1, q.2.1, q.2.2.1.trans (congrArg (fun q => AV.sc (.bool q)) (by rw [hb1]; rfl)), q.1.2.1, q.1.2.2, q.2.2.2⟩)
     clear q
     rintro t H n q
     refine Stk.omD (S := [b2]) (b := n0) rfl (fun j hj hm => upd_ne _ _ (by simpa using hm)) rfl (mop_store (z := 6) rfl q.1 q.2.2.2.1 q.2.1 (len153 _) (by rw [len153]; decide) (ok153 _) (st_153_0_153 _ _)) (by simp [q]) rfl (fun t' ht' => ?_)
     refine gn (fun t H n => Q8_4 b2 t n ∧ t 30 = .sc (.bool (x7 || (a0.Name.toList == (⟨#[115, 116, 97, 116, 101]⟩ : ByteArray).toList))) ∧ H b2 = some (.cells (c153 (ast_shape.mk true false false 0 0 false)) 153) ∧ n0 ≤ n) (j2 (by simp [ht', q]) ⟨upd_same _ _ _, q.2.2.2.2.2⟩) fun t H n q => ?_
     apply eY 3; simp [q]
     obtain rfl := sj h
     exact (hr _ _ _ (.tup [.agg (c153 (ast_shape.mk true false false 0 0 false)), .sc (.bool (x7 || (a0.Name.toList == (⟨#[115, 116, 97, 116, 101]⟩ : ByteArray).toList)))]) ([]) (by simp [q, ld_153_0_153]) (.inr (.inr (.tup (.cons (.free (fr153 _)) (.cons (.free (rfl)) (.nil))))))).1
    ·have h := cF hb6 h
     apply eY 5; simp [q, ld_33_0_3]
     refine cd (a0.Kind == 3) (by simp [q, ld_33_0_3]) (fun hb8 => ?_) (fun hb8 => ?_)
     ·have h := cT hb8 h
      apply eY 2; simp [q, ld_33_0_3]
      refine gn (fun t H n => Q8_2 a0 b1 b2 t H n ∧ t 6 = .sc (.int .i64 a0.Kind) ∧ t 31 = .sc (.bool (a0.Kind == 3))) (by simp [q, ld_33_0_3]) fun t H n q => ?_
      refine Stk.ov (vop_build T.t153 rfl rfl (cs := c153 (ast_shape.mk false false false 0 0 false)) (cs' := c153 (ast_shape.mk true false false 0 6 false)) rfl (.cons rfl rfl rfl rfl rfl (rfl) (by rw [len153]; decide) (st_153_0_4 _ _) (.cons rfl rfl rfl rfl rfl (rfl) (by rw [len153]; decide) (st_153_4_3 _ _) (.nil)))) (by simp [q]) rfl (fun t' ht' => ?_)
      refine gn (fun t H n => Q8_2 a0 b1 b2 t H n ∧ t 33 = .agg (c153 (ast_shape.mk true false false 0 6 false))) (by simp [ht', q]) fun t H n q => ?_
      obtain ⟨x9, hx9, h⟩ := bnd h
      apply eY 2; simp [q, ld_33_5_9]
      refine cw (ok_ast_great F _ _ hx9) (by simp [q, ld_33_5_9]) rfl rfl (by simp [q, ld_33_5_9]) (.cons (.free (rfl)) (.nil)) rfl ?_
      rintro _ rfl
      refine Stk.om (mop_store (z := 6) (o := 0) (v := .agg (c153 (ast_shape.mk true false false 0 6 false))) rfl (by simp [q, ld_33_5_9]) q.1.2.2.2.2.1 (by simp [q, ld_33_5_9]) (len153 _) (by rw [len153]; decide) (ok153 _) (st_153_0_153 _ _)) (by simp [q, ld_33_5_9]) rfl (fun t' ht' => ?_)
      refine gn (fun t H n => Q8_4 b2 t n ∧ t 36 = .sc (.bool x9) ∧ H b2 = some (.cells (c153 (ast_shape.mk true false false 0 6 false)) 153)) (j2 (by simp [ht', q, ld_33_5_9]) (upd_same _ _ _)) fun t H n q => ?_
      apply eY 3; simp [q]
      obtain rfl := sj h
      exact (hr _ _ _ (.tup [.agg (c153 (ast_shape.mk true false false 0 6 false)), .sc (.bool x9)]) ([]) (by simp [q, ld_153_0_153]) (.inr (.inr (.tup (.cons (.free (fr153 _)) (.cons (.free (rfl)) (.nil))))))).1
     ·have h := cF hb8 h
      apply eY 5; simp [q, ld_33_0_3]
      refine cd (a0.Kind == 4) (by simp [q, ld_33_0_3]) (fun hb10 => ?_) (fun hb10 => ?_)
      ·have h := cT hb10 h
       apply eY 2; simp [q, ld_33_0_3]
       refine gn (fun t H n => Q8_2 a0 b1 b2 t H n ∧ t 6 = .sc (.int .i64 a0.Kind) ∧ t 37 = .sc (.bool (a0.Kind == 4))) (by simp [q, ld_33_0_3]) fun t H n q => ?_
       refine Stk.ov (vop_build T.t153 rfl rfl (cs := c153 (ast_shape.mk false false false 0 0 false)) (cs' := c153 (ast_shape.mk false false false 2 6 false)) rfl (.cons rfl rfl rfl rfl rfl (rfl) (by rw [len153]; decide) (st_153_3_3 _ _) (.cons rfl rfl rfl rfl rfl (rfl) (by rw [len153]; decide) (st_153_4_3 _ _) (.nil)))) (by simp [q]) rfl (fun t' ht' => ?_)
       refine gn (fun t H n => Q8_3 b2 t H n ∧ t 39 = .agg (c153 (ast_shape.mk false false false 2 6 false))) (by simp [ht', q]) fun t H n q => ?_
       refine Stk.om (mop_store (z := 6) rfl q.1.1 q.1.2.1 q.2 (len153 _) (by rw [len153]; decide) (ok153 _) (st_153_0_153 _ _)) (by simp [q]) rfl (fun t' ht' => ?_)
       refine gn (fun t H n => Q8_4 b2 t n ∧ H b2 = some (.cells (c153 (ast_shape.mk false false false 2 6 false)) 153)) ⟨by simp [ht', q], upd_same _ _ _⟩ fun t H n q => ?_
       apply eY 3; simp [q]
       obtain rfl := sj h
       exact (hr _ _ _ (.tup [.agg (c153 (ast_shape.mk false false false 2 6 false)), .sc (.bool true)]) ([]) (by simp [q, ld_153_0_153]) (.inr (.inr (.tup (.cons (.free (fr153 _)) (.cons (.free (rfl)) (.nil))))))).1
      ·have h := cF hb10 h
       apply eY 5; simp [q, ld_33_0_3]
       refine cd (a0.Kind == 5) (by simp [q, ld_33_0_3]) (fun hb11 => ?_) (fun hb11 => ?_)
       ·have h := cT hb11 h
        apply eY 2; simp [q, ld_33_0_3]
        refine gn (fun t H n => Q8_2 a0 b1 b2 t H n ∧ t 6 = .sc (.int .i64 a0.Kind) ∧ t 40 = .sc (.bool (a0.Kind == 5))) (by simp [q, ld_33_0_3]) fun t H n q => ?_
        refine Stk.ov (vop_build T.t153 rfl rfl (cs := c153 (ast_shape.mk false false false 0 0 false)) (cs' := c153 (ast_shape.mk true false false 1 6 false)) rfl (.cons rfl rfl rfl rfl rfl (rfl) (by rw [len153]; decide) (st_153_0_4 _ _) (.cons rfl rfl rfl rfl rfl (rfl) (by rw [len153]; decide) (st_153_3_3 _ _) (.cons rfl rfl rfl rfl rfl (rfl) (by rw [len153]; decide) (st_153_4_3 _ _) (.nil))))) (by simp [q]) rfl (fun t' ht' => ?_)
        refine gn (fun t H n => Q8_2 a0 b1 b2 t H n ∧ t 42 = .agg (c153 (ast_shape.mk true false false 1 6 false))) (by simp [ht', q]) fun t H n q => ?_
        obtain ⟨x12, hx12, h⟩ := bnd h
        apply eY 2; simp [q, ld_33_5_9]
        refine cw (ok_ast_called F _ _ hx12) (by simp [q, ld_33_5_9]) rfl rfl (by simp [q, ld_33_5_9]) (.cons (.free (rfl)) (.nil)) rfl ?_
        rintro _ rfl
        refine Stk.om (mop_store (z := 6) (o := 0) (v := .agg (c153 (ast_shape.mk true false false 1 6 false))) rfl (by simp [q, ld_33_5_9]) q.1.2.2.2.2.1 (by simp [q, ld_33_5_9]) (len153 _) (by rw [len153]; decide) (ok153 _) (st_153_0_153 _ _)) (by simp [q, ld_33_5_9]) rfl (fun t' ht' => ?_)
        refine gn (fun t H n => Q8_4 b2 t n ∧ t 45 = .sc (.bool x12) ∧ H b2 = some (.cells (c153 (ast_shape.mk true false false 1 6 false)) 153)) (j2 (by simp [ht', q, ld_33_5_9]) (upd_same _ _ _)) fun t H n q => ?_
        apply eY 3; simp [q]
        obtain rfl := sj h
        exact (hr _ _ _ (.tup [.agg (c153 (ast_shape.mk true false false 1 6 false)), .sc (.bool x12)]) ([]) (by simp [q, ld_153_0_153]) (.inr (.inr (.tup (.cons (.free (fr153 _)) (.cons (.free (rfl)) (.nil))))))).1
       ·have h := cF hb11 h
        apply eY 5; simp [q, ld_33_0_3]
        refine cd (a0.Kind == 6) (by simp [q, ld_33_0_3]) (fun hb13 => ?_) (fun hb13 => ?_)
        ·have h := cT hb13 h
         apply eY 2; simp [q, ld_33_0_3]
         refine gn (fun t H n => Q8_2 a0 b1 b2 t H n ∧ t 6 = .sc (.int .i64 a0.Kind) ∧ t 46 = .sc (.bool (a0.Kind == 6))) (by simp [q, ld_33_0_3]) fun t H n q => ?_
         refine Stk.ov (vop_build T.t153 rfl rfl (cs := c153 (ast_shape.mk false false false 0 0 false)) (cs' := c153 (ast_shape.mk true false false 2 2 false)) rfl (.cons rfl rfl rfl rfl rfl (rfl) (by rw [len153]; decide) (st_153_0_4 _ _) (.cons rfl rfl rfl rfl rfl (rfl) (by rw [len153]; decide) (st_153_3_3 _ _) (.cons rfl rfl rfl rfl rfl (rfl) (by rw [len153]; decide) (st_153_4_3 _ _) (.nil))))) (by simp [q]) rfl (fun t' ht' => ?_)
         refine gn (fun t H n => Q8_2 a0 b1 b2 t H n ∧ t 48 = .agg (c153 (ast_shape.mk true false false 2 2 false))) (by simp [ht', q]) fun t H n q => ?_
         obtain ⟨x14, hx14, h⟩ := bnd h
         apply eY 2; simp [q, ld_33_5_9]
         refine cw (ok_ast_small F _ _ hx14) (by simp [q, ld_33_5_9]) rfl rfl (by simp [q, ld_33_5_9]) (.cons (.free (rfl)) (.nil)) rfl ?_
         rintro _ rfl
         refine Stk.om (mop_store (z := 6) (o := 0) (v := .agg (c153 (ast_shape.mk true false false 2 2 false))) rfl (by simp [q, ld_33_5_9]) q.1.2.2.2.2.1 (by simp [q, ld_33_5_9]) (len153 _) (by rw [len153]; decide) (ok153 _) (st_153_0_153 _ _)) (by simp [q, ld_33_5_9]) rfl (fun t' ht' => ?_)
         refine gn (fun t H n => Q8_4 b2 t n ∧ t 51 = .sc (.bool x14) ∧ H b2 = some (.cells (c153 (ast_shape.mk true false false 2 2 false)) 153)) (j2 (by simp [ht', q, ld_33_5_9]) (upd_same _ _ _)) fun t H n q => ?_
         apply eY 3; simp [q]
         obtain rfl := sj h
         exact (hr _ _ _ (.tup [.agg (c153 (ast_shape.mk true false false 2 2 false)), .sc (.bool x14)]) ([]) (by simp [q, ld_153_0_153]) (.inr (.inr (.tup (.cons (.free (fr153 _)) (.cons (.free (rfl)) (.nil))))))).1
        ·have h := cF hb13 h
         apply eY 5; simp [q, ld_33_0_3]
         refine cd (a0.Kind == 7) (by simp [q, ld_33_0_3]) (fun hb15 => ?_) (fun hb15 => ?_)
         ·have h := cT hb15 h
          apply eY 2; simp [q, ld_33_0_3]
          refine gn (fun t H n => Q8_2 a0 b1 b2 t H n ∧ t 6 = .sc (.int .i64 a0.Kind) ∧ t 52 = .sc (.bool (a0.Kind == 7))) (by simp [q, ld_33_0_3]) fun t H n q => ?_
          refine Stk.ov (vop_build T.t153 rfl rfl (cs := c153 (ast_shape.mk false false false 0 0 false)) (cs' := c153 (ast_shape.mk false false false 3 3 false)) rfl (.cons rfl rfl rfl rfl rfl (rfl) (by rw [len153]; decide) (st_153_3_3 _ _) (.cons rfl rfl rfl rfl rfl (rfl) (by rw [len153]; decide) (st_153_4_3 _ _) (.nil)))) (by simp [q]) rfl (fun t' ht' => ?_)
          refine gn (fun t H n => Q8_3 b2 t H n ∧ t 54 = .agg (c153 (ast_shape.mk false false false 3 3 false))) (by simp [ht', q]) fun t H n q => ?_
          refine Stk.om (mop_store (z := 6) rfl q.1.1 q.1.2.1 q.2 (len153 _) (by rw [len153]; decide) (ok153 _) (st_153_0_153 _ _)) (by simp [q]) rfl (fun t' ht' => ?_)
          refine gn (fun t H n => Q8_4 b2 t n ∧ H b2 = some (.cells (c153 (ast_shape.mk false false false 3 3 false)) 153)) ⟨by simp [ht', q], upd_same _ _ _⟩ fun t H n q => ?_
          apply eY 3; simp [q]
          obtain rfl := sj h
          exact (hr _ _ _ (.tup [.agg (c153 (ast_shape.mk false false false 3 3 false)), .sc (.bool true)]) ([]) (by simp [q, ld_153_0_153]) (.inr (.inr (.tup (.cons (.free (fr153 _)) (.cons (.free (rfl)) (.nil))))))).1
         ·have h := cF hb15 h
          apply eY 5; simp [q, ld_33_0_3]
          refine cd (a0.Kind == 8) (by simp [q, ld_33_0_3]) (fun hb16 => ?_) (fun hb16 => ?_)
          ·have h := cT hb16 h
           apply eY 2; simp [q, ld_33_0_3]
           refine gn (fun t H n => Q8_2 a0 b1 b2 t H n ∧ t 6 = .sc (.int .i64 a0.Kind) ∧ t 55 = .sc (.bool (a0.Kind == 8))) (by simp [q, ld_33_0_3]) fun t H n q => ?_
           refine Stk.ov (vop_build T.t153 rfl rfl (cs := c153 (ast_shape.mk false false false 0 0 false)) (cs' := c153 (ast_shape.mk false false false 1 1 true)) rfl (.cons rfl rfl rfl rfl rfl (rfl) (by rw [len153]; decide) (st_153_3_3 _ _) (.cons rfl rfl rfl rfl rfl (rfl) (by rw [len153]; decide) (st_153_4_3 _ _) (.cons rfl rfl rfl rfl rfl (rfl) (by rw [len153]; decide) (st_153_5_4 _ _) (.nil))))) (by simp [q]) rfl (fun t' ht' => ?_)
           refine gn (fun t H n => Q8_3 b2 t H n ∧ t 57 = .agg (c153 (ast_shape.mk false false false 1 1 true))) (by simp [ht', q]) fun t H n q => ?_
           refine Stk.om (mop_store (z := 6) rfl q.1.1 q.1.2.1 q.2 (len153 _) (by rw [len153]; decide) (ok153 _) (st_153_0_153 _ _)) (by simp [q]) rfl (fun t' ht' => ?_)
           refine gn (fun t H n => Q8_4 b2 t n ∧ H b2 = some (.cells (c153 (ast_shape.mk false false false 1 1 true)) 153)) ⟨by simp [ht', q], upd_same _ _ _⟩ fun t H n q => ?_
           apply eY 3; simp [q]
           obtain rfl := sj h
           exact (hr _ _ _ (.tup [.agg (c153 (ast_shape.mk false false false 1 1 true)), .sc (.bool true)]) ([]) (by simp [q, ld_153_0_153]) (.inr (.inr (.tup (.cons (.free (fr153 _)) (.cons (.free (rfl)) (.nil))))))).1
          ·have h := cF hb16 h
           apply eY 5; simp [q, ld_33_0_3]
           refine cd (a0.Kind == 9) (by simp [q, ld_33_0_3]) (fun hb17 => ?_) (fun hb17 => ?_)
           ·have h := cT hb17 h
            obtain ⟨x18, hx18, h⟩ := bnd h
            apply eY 4; simp [q, ld_33_0_3, ld_33_3_2]
            refine cw (ok_ast_args F _ _ hx18) (by simp [q, ld_33_0_3, ld_33_3_2]) rfl rfl (by simp [q, ld_33_0_3, ld_33_3_2]) (.cons (.free (rfl)) (.nil)) rfl ?_
            rintro _ rfl
            apply eY 3; simp [q, ld_33_0_3, ld_33_3_2]
            refine gn (fun t H n => Q8_2 a0 b1 b2 t H n ∧ t 4 = .sc (.int .i64 x18)) (by simp [q, ld_33_0_3, ld_33_3_2]) fun t H n q => ?_
            obtain ⟨n0, hn0⟩ : ∃ m, m = n := ⟨n, rfl⟩
            have ln0 : n0 ≤ n := Nat.le_of_eq hn0
            refine Stk.rgD [.rd [], .rd [], .rd [], .rd [], .rd [b1], .rd [], .rd [], .rd [], .rd [b1], .rd [], .rd [], .mem [b2] n0, .rd []] none (by kernel_rfl) (drawOk2_ren [b1, b2] (by simp [q]) n0 [.rd [], .rd [], .rd [], .rd [], .rd [0], .rd [], .rd [], .rd [], .rd [0], .rd [], .rd [], .mem [1] 0, .rd []] rfl (by rfl)) rfl (by simp [below, hn0, q, hn0]) rfl ?_
            apply eY 2; simp [q]
            refine gn (fun t H n => Q8_2 a0 b1 b2 t H n ∧ t 63 = .sc (.int .i64 x18) ∧ t 64 = .sc (.int .i64 x18) ∧ n0 ≤ n) (by simp [q, ln0]) fun t H n q => ?_
            refine Stk.ovD rfl (by simp [q]) rfl (vop_build T.t153 rfl rfl (cs := c153 (ast_shape.mk false false false 0 0 false)) (cs' := c153 (ast_shape.mk false true false x18 x18 false)) rfl (.cons rfl rfl rfl rfl rfl (rfl) (by rw [len153]; decide) (st_153_1_4 _ _) (.cons q.2.1 rfl rfl rfl rfl (rfl) (by rw [len153]; decide) (st_153_3_3 _ _) (.cons q.2.2.1 rfl rfl rfl rfl (rfl) (by rw [len153]; decide) (st_153_4_3 _ _) (.nil))))) (by simp [q]) rfl (fun t' ht' => ?_)
            refine gn (fun t H n => Q8_2 a0 b1 b2 t H n ∧ t 65 = .agg (c153 (ast_shape.mk false true false x18 x18 false)) ∧ n0 ≤ n) (by simp [ht', q]) fun t H n q => ?_
            apply eY 4; simp [q, ld_33_3_2]
            refine gn (fun t H n => Q8_2 a0 b1 b2 t H n ∧ t 65 = .agg (c153 (ast_shape.mk false true false x18 x18 false)) ∧ t 69 = .sc (.bool (decide (0 ≤ a0.Num))) ∧ n0 ≤ n) (by simp [q, ld_33_3_2]) fun t H n q => ?_
            refine Stk.jd 4 (fun t H n => t 2 = .own b2 0 ∧ t 65 = .agg (c153 (ast_shape.mk false true false x18 x18 false)) ∧ t 73 = .sc (.bool ((decide (0 ≤ a0.Num)) && (decide (a0.Num < 12)))) ∧ H b2 = some (.cells (c153 (ast_shape.mk false false false 0 0 false)) 153) ∧ b2 < n ∧ n0 ≤ n) (fun J2 hJ2 => ?_) ?_
            · rcases Bool.eq_false_or_eq_true (decide (0 ≤ a0.Num)) with hb2 | hb2
              · obtain ⟨⟨f1, f2, b_b1, l_b1, b_b2, l_b2, d_b1_b2⟩, f65, f69, ln0⟩ := q
                rw [hb2] at f69
                apply eY 5; simp [f1, f2, f65, f69, b_b1, b_b2, ld_33_3_2]
                refine gn (fun t H n => Q8_3 b2 t H n ∧ t 65 = .agg (c153 (ast_shape.mk false true false x18 x18 false)) ∧ t 73 = .sc (.bool (decide (a0.Num < 12))) ∧ n0 ≤ n) (by simp [f1, f2, f65, f69, b_b1, b_b2, ld_33_3_2, l_b2, ln0]) fun t H n q => ?_
                exact l0 (hJ2 _ _ _ ⟨q.1.1, q.2.1, q.2.2.1.trans (congrArg (fun q => AV.sc (.bool q)) (by rw [hb2]; rfl)), q.1.2.1, q.1.2.2, q.2.2.2⟩)
              · obtain ⟨⟨f1, f2, b_b1, l_b1, b_b2, l_b2, d_b1_b2⟩, f65, f69, ln0⟩ := q
                rw [hb2] at f69
                apply eY 5; simp [f1, f2, f65, f69, b_b1, b_b2]
                refine gn (fun t H n => Q8_3 b2 t H n ∧ t 65 = .agg (c153 (ast_shape.mk false true false x18 x18 false)) ∧ t 73 = .sc (.bool false) ∧ n0 ≤ n) (by simp [f1, f2, f65, f69, b_b1, b_b2, l_b2, ln0]) fun t H n q => ?_
                exact l0 (hJ2 _ _ _ ⟨q.1.1, q.2.1, q.2.2.1.trans (congrArg (fun q => AV.sc (.bool q)) (by rw [hb2]; rfl)), q.1.2.1, q.1.2.2, q.2.2.2⟩)
            clear q
            rintro t H n q
            refine Stk.omD (S := [b2]) (b := n0) rfl (fun j hj hm => upd_ne _ _ (by simpa using hm)) rfl (mop_store (z := 6) rfl q.1 q.2.2.2.1 q.2.1 (len153 _) (by rw [len153]; decide) (ok153 _) (st_153_0_153 _ _)) (by simp [q]) rfl (fun t' ht' => ?_)
            refine gn (fun t H n => Q8_4 b2 t n ∧ t 73 = .sc (.bool ((decide (0 ≤ a0.Num)) && (decide (a0.Num < 12)))) ∧ H b2 = some (.cells (c153 (ast_shape.mk false true false x18 x18 false)) 153) ∧ n0 ≤ n) (j2 (by simp [ht', q]) ⟨upd_same _ _ _, q.2.2.2.2.2⟩) fun t H n q => ?_
            apply eY 3; simp [q]
            obtain rfl := sj h
            exact (hr _ _ _ (.tup [.agg (c153 (ast_shape.mk false true false x18 x18 false)), .sc (.bool ((decide (0 ≤ a0.Num)) && (decide (a0.Num < 12))))]) ([]) (by simp [q, ld_153_0_153]) (.inr (.inr (.tup (.cons (.free (fr153 _)) (.cons (.free (rfl)) (.nil))))))).1
           ·have h := cF hb17 h
            apply eY 5; simp [q, ld_33_0_3]
            refine cd (a0.Kind == 10) (by simp [q, ld_33_0_3]) (fun hb19 => ?_) (fun hb19 => ?_)
            ·have h := cT hb19 h
             apply eY 1; simp [q, ld_33_0_3]
             refine gn (fun t H n => Q8_2 a0 b1 b2 t H n ∧ t 74 = .sc (.bool (a0.Kind == 10))) (by simp [q, ld_33_0_3]) fun t H n q => ?_
             obtain ⟨n0, hn0⟩ : ∃ m, m = n := ⟨n, rfl⟩
             have ln0 : n0 ≤ n := Nat.le_of_eq hn0
             refine Stk.rgD [.rd [], .rd [], .rd [b1], .rd [], .rd [], .rd [], .rd [b1], .rd [], .rd [], .rd [], .rd [], .rd [b1], .rd [], .rd [], .mem [b2] n0, .rd []] none (by kernel_rfl) (drawOk2_ren [b1, b2] (by simp [q]) n0 [.rd [], .rd [], .rd [0], .rd [], .rd [], .rd [], .rd [0], .rd [], .rd [], .rd [], .rd [], .rd [0], .rd [], .rd [], .mem [1] 0, .rd []] rfl (by rfl)) rfl (by simp [below, hn0, q, hn0]) rfl ?_
             refine Stk.ovD rfl (by simp [q]) rfl (vop_build T.t153 rfl rfl (cs := c153 (ast_shape.mk false false false 0 0 false)) (cs' := c153 (ast_shape.mk true true false 2 2 false)) rfl (.cons rfl rfl rfl rfl rfl (rfl) (by rw [len153]; decide) (st_153_0_4 _ _) (.cons rfl rfl rfl rfl rfl (rfl) (by rw [len153]; decide) (st_153_1_4 _ _) (.cons rfl rfl rfl rfl rfl (rfl) (by rw [len153]; decide) (st_153_3_3 _ _) (.cons rfl rfl rfl rfl rfl (rfl) (by rw [len153]; decide) (st_153_4_3 _ _) (.nil)))))) (by simp [q]) rfl (fun t' ht' => ?_)
             refine gn (fun t H n => Q8_2 a0 b1 b2 t H n ∧ t 76 = .agg (c153 (ast_shape.mk true true false 2 2 false)) ∧ n0 ≤ n) (by simp [ht', q, ln0]) fun t H n q => ?_
             obtain ⟨x20, hx20, h⟩ := bnd h
             apply eY 2; simp [q, ld_33_5_9]
             refine cx (ok_ast_small F _ _ hx20) rfl rfl (by simp [q, ld_33_5_9]) rfl rfl (by simp [q, ld_33_5_9]) (.cons (.free (rfl)) (.nil)) rfl ?_
             rintro _ rfl
             apply eY 1; simp [q, ld_33_5_9]
             refine gn (fun t H n => Q8_2 a0 b1 b2 t H n ∧ t 76 = .agg (c153 (ast_shape.mk true true false 2 2 false)) ∧ t 80 = .sc (.bool x20) ∧ n0 ≤ n) (by simp [q, ld_33_5_9]) fun t H n q => ?_
             refine Stk.jd 4 (fun t H n => t 1 = .own b1 0 ∧ t 2 = .own b2 0 ∧ t 76 = .agg (c153 (ast_shape.mk true true false 2 2 false)) ∧ t 84 = .sc (.bool (x20 && (decide (0 ≤ a0.Num)))) ∧ H b1 = some (.cells (c33 a0) 33) ∧ b1 < n ∧ H b2 = some (.cells (c153 (ast_shape.mk false false false 0 0 false)) 153) ∧ b2 < n ∧ b1 ≠ b2 ∧ n0 ≤ n) (fun J3 hJ3 => ?_) ?_
             · rcases Bool.eq_false_or_eq_true x20 with hb3 | hb3
               · obtain ⟨⟨f1, f2, b_b1, l_b1, b_b2, l_b2, d_b1_b2⟩, f76, f80, ln0⟩ := q
                 rw [hb3] at f80
                 apply eY 5; simp [f1, f2, f76, f80, b_b1, b_b2, ld_33_3_2]
                 refine gn (fun t H n => Q8_2 a0 b1 b2 t H n ∧ t 76 = .agg (c153 (ast_shape.mk true true false 2 2 false)) ∧ t 84 = .sc (.bool (decide (0 ≤ a0.Num))) ∧ n0 ≤ n) (by simp [f1, f2, f76, f80, b_b1, b_b2, ld_33_3_2, l_b1, l_b2, d_b1_b2, ln0]) fun t H n q => ?_
                 exact l0 (hJ3 _ _ _ ⟨q.1.1, q.1.2.1, q.2.1, q.2.2.1.trans (congrArg (fun q => AV.sc (.bool q)) (by rw [hb3]; rfl)), q.1.2.2.1, q.1.2.2.2.1, q.1.2.2.2.2.1, q.1.2.2.2.2.2.1, q.1.2.2.2.2.2.2, q.2.2.2⟩)
               · obtain ⟨⟨f1, f2, b_b1, l_b1, b_b2, l_b2, d_b1_b2⟩, f76, f80, ln0⟩ := q
                 rw [hb3] at f80
                 apply eY 5; simp [f1, f2, f76, f80, b_b1, b_b2]
                 refine gn (fun t H n => Q8_2 a0 b1 b2 t H n ∧ t 76 = .agg (c153 (ast_shape.mk true true false 2 2 false)) ∧ t 84 = .sc (.bool false) ∧ n0 ≤ n) (by simp [f1, f2, f76, f80, b_b1, b_b2, l_b1, l_b2, d_b1_b2, ln0]) fun t H n q => ?_
                 exact l0 (hJ3 _ _ _ ⟨q.1.1, q.1.2.1, q.2.1, q.2.2.1.trans (congrArg (fun q => AV.sc (.bool q)) (by rw [hb3]; rfl)), q.1.2.2.1, q.1.2.2.2.1, q.1.2.2.2.2.1, q.1.2.2.2.2.2.1, q.1.2.2.2.2.2.2, q.2.2.2⟩)
             clear q
             rintro t H n q
             apply eY 1; simp [q]
             refine gn (fun t H n => Q8_2 a0 b1 b2 t H n ∧ t 76 = .agg (c153 (ast_shape.mk true true false 2 2 false)) ∧ t 85 = .sc (.bool (x20 && (decide (0 ≤ a0.Num)))) ∧ n0 ≤ n) (by simp [q]) fun t H n q => ?_
             refine Stk.jd 4 (fun t H n => t 2 = .own b2 0 ∧ t 76 = .agg (c153 (ast_shape.mk true true false 2 2 false)) ∧ t 89 = .sc (.bool ((x20 && (decide (0 ≤ a0.Num))) && (decide (a0.Num ≤ 1000)))) ∧ H b2 = some (.cells (c153 (ast_shape.mk false false false 0 0 false)) 153) ∧ b2 < n ∧ n0 ≤ n) (fun J4 hJ4 => ?_) ?_
             · rcases Bool.eq_false_or_eq_true (x20 && (decide (0 ≤ a0.Num))) with hb4 | hb4
               · obtain ⟨⟨f1, f2, b_b1, l_b1, b_b2, l_b2, d_b1_b2⟩, f76, f85, ln0⟩ := q
                 rw [hb4] at f85
                 apply eY 5; simp [f1, f2, f76, f85, b_b1, b_b2, ld_33_3_2]
                 refine gn (fun t H n => Q8_3 b2 t H n ∧ t 76 = .agg (c153 (ast_shape.mk true true false 2 2 false)) ∧ t 89 = .sc (.bool (decide (a0.Num ≤ 1000))) ∧ n0 ≤ n) (by simp [f1, f2, f76, f85, b_b1, b_b2, ld_33_3_2, l_b2, ln0]) fun t H n q => ?_
                 exact l0 (hJ4 _ _ _ ⟨q.1.1, q.2.1, q.2.2.1.trans (congrArg (fun q => AV.sc (.bool q)) (by rw [hb4]; rfl)), q.1.2.1, q.1.2.2, q.2.2.2⟩)
               · obtain ⟨⟨f1, f2, b_b1, l_b1, b_b2, l_b2, d_b1_b2⟩, f76, f85, ln0⟩ := q
                 rw [hb4] at f85
                 apply eY 5; simp [f1, f2, f76, f85, b_b1, b_b2]
                 refine gn (fun t H n => Q8_3 b2 t H n ∧ t 76 = .agg (c153 (ast_shape.mk true true false 2 2 false)) ∧ t 89 = .sc (.bool false) ∧ n0 ≤ n) (by simp [f1, f2, f76, f85, b_b1, b_b2, l_b2, ln0]) fun t H n q => ?_
                 exact l0 (hJ4 _ _ _ ⟨q.1.1, q.2.1, q.2.2.1.trans (congrArg (fun q => AV.sc (.bool q)) (by rw [hb4]; rfl)), q.1.2.1, q.1.2.2, q.2.2.2⟩)
             clear q
             rintro t H n q
             refine Stk.omD (S := [b2]) (b := n0) rfl (fun j hj hm => upd_ne _ _ (by simpa using hm)) rfl (mop_store (z := 6) rfl q.1 q.2.2.2.1 q.2.1 (len153 _) (by rw [len153]; decide) (ok153 _) (st_153_0_153 _ _)) (by simp [q]) rfl (fun t' ht' => ?_)
             refine gn (fun t H n => Q8_4 b2 t n ∧ t 89 = .sc (.bool ((x20 && (decide (0 ≤ a0.Num))) && (decide (a0.Num ≤ 1000)))) ∧ H b2 = some (.cells (c153 (ast_shape.mk true true false 2 2 false)) 153) ∧ n0 ≤ n) (j2 (by simp [ht', q]) ⟨upd_same _ _ _, q.2.2.2.2.2⟩) fun t H n q => ?_
             apply eY 3; simp [q]
             obtain rfl := sj h
             exact (hr _ _ _ (.tup [.agg (c153 (ast_shape.mk true true false 2 2 false)), .sc (.bool ((x20 && (decide (0 ≤ a0.Num))) && (decide (a0.Num ≤ 1000))))]) ([]) (by simp [q, ld_153_0_153]) (.inr (.inr (.tup (.cons (.free (fr153 _)) (.cons (.free (rfl)) (.nil))))))).1
            ·have h := cF hb19 h
             apply eY 4; simp [q, ld_33_0_3]
             refine gn (fun t H n => Q8_2 a0 b1 b2 t H n ∧ t 74 = .sc (.bool (a0.Kind == 10))) (by simp [q, ld_33_0_3]) fun t H n q => ?_
             refine Stk.ov (vop_build T.t153 rfl rfl (cs := c153 (ast_shape.mk false false false 0 0 false)) (cs' := c153 (ast_shape.mk false false false 0 0 false)) rfl (.nil)) (by simp [q]) rfl (fun t' ht' => ?_)
             refine gn (fun t H n => Q8_3 b2 t H n ∧ t 90 = .agg (c153 (ast_shape.mk false false false 0 0 false))) (by simp [ht', q]) fun t H n q => ?_
             refine Stk.om (mop_store (z := 6) rfl q.1.1 q.1.2.1 q.2 (len153 _) (by rw [len153]; decide) (ok153 _) (st_153_0_153 _ _)) (by simp [q]) rfl (fun t' ht' => ?_)
             refine gn (fun t H n => Q8_3 b2 t H n) ⟨by simp [ht', q], upd_same _ _ _, q.1.2.2⟩ fun t H n q => ?_
             apply eY 3; simp [q]
             obtain rfl := sj h
             exact (hr _ _ _ (.tup [.agg (c153 (ast_shape.mk false false false 0 0 false)), .sc (.bool false)]) ([]) (by simp [q, ld_153_0_153]) (.inr (.inr (.tup (.cons (.free (fr153 _)) (.cons (.free (rfl)) (.nil))))))).1
theorem ok_sIxArm (F : Nat) (a0 : (List AArm)) (φ1 : AArm → Option Bool) (g1 : FuncId) (first1 caps1 : List AV) (fr1 : freeL first1 = true ∧ freeL caps1 = true) (hφ1 : ∀ y0 r, φ1 y0 = some r → RunF Tryz.prog T.T g1 (first1 ++ [.agg (c68 y0)] ++ caps1) (.sc (.bool r))) (r : Int) (h : sIxArm F a0 φ1 = some r) : RunF Tryz.prog T.T 202 [.ssl (encs c68 a0) a0.length false, .fn (.func g1) first1 caps1] (.sc (.int .i64 r)) := by
  rw [sIxArm] at h
  refine RunF.z Tryz.func202 rfl rfl rfl rfl rfl (fun C hr => ?_)
  refine gn (fun t H n => t 0 = .ssl (encs c68 a0) a0.length false ∧ t 1 = .fn (.func g1) first1 caps1) ⟨by simp, by simp⟩ fun t H n q => ?_
  apply eY 12; simp [q]
  refine gn (fun t H n => t 0 = .ssl (encs c68 a0) a0.length false ∧ t 1 = .fn (.func g1) first1 caps1 ∧ t 7 = .sc (.int .i64 (a0.length : Int)) ∧ t 8 = .sc (.int .i64 0)) (by simp [q]) fun t H n q => ?_
  refine Stk.lo (fun μ t H n => ∃ v1 : Int, sIxArm_L0 F a0 φ1 μ v1 = some r ∧ t 0 = .ssl (encs c68 a0) a0.length false ∧ t 1 = .fn (.func g1) first1 caps1 ∧ t 7 = .sc (.int .i64 (a0.length : Int)) ∧ t 8 = .sc (.int .i64 v1)) F ⟨0, h, q⟩ ?_
  clear q h
  rintro J1 hJ1 μ t H n ⟨v1, h, q⟩
  cases μ with
  | zero => exact absurd h (by simp [sIxArm_L0])
  | succ μ =>
  rw [sIxArm_L0] at h
  apply eY 5; simp [q]
  refine cd (decide (v1 < (a0.length : Int))) (by simp [q]) (fun hb3 => ?_) (fun hb3 => ?_)
  ·have h := cT hb3 h
   obtain ⟨x4, hx4, h⟩ := bnd h
   obtain ⟨i0x4, i1x4, i2x4, _⟩ := idx_ok hx4
   have ex4_0_68 : partOf T.T 68 (encs c68 a0) (v1.toNat * 14) = some (.agg (c68 x4)) := (part_elem0 (e := c68) (z := 14) (ty := 68) T.t68 (by decide) (by decide) hx4 0 (by decide)).trans (ld_68_0_68 _)
   obtain ⟨x5, hx5, h⟩ := bnd h
   apply eY 15; simp [q, i0x4, i1x4, pd68, ex4_0_68]
   refine Stk.cv (g := g1) (first := first1) (caps := caps1) (args := first1 ++ [.agg (c68 x4)] ++ caps1) (args' := first1 ++ [.agg (c68 x4)] ++ caps1) (v := .sc (.bool x5)) [] (hφ1 _ _ hx5) (by simp [q, i0x4, i1x4, pd68, ex4_0_68]) rfl (by simp [q, i0x4, i1x4, pd68, ex4_0_68]) (by simp [q, i0x4, i1x4, pd68, ex4_0_68]) (viewL_mid (x := [.agg (c68 x4)]) (y := [.agg (c68 x4)]) fr1.1 fr1.2 (.cons (.free (fr68 _)) (.nil))) (.inl ⟨rfl, rfl⟩) ?_
   rintro _ rfl
   apply eY 1; simp [q, i0x4, i1x4, pd68, ex4_0_68]
   refine cd x5 (by simp [q, i0x4, i1x4, pd68, ex4_0_68]) (fun hb6 => ?_) (fun hb6 => ?_)
   ·have h := cT hb6 h
    apply eY 6; simp [q, i0x4, i1x4, pd68, ex4_0_68]
    obtain rfl := sj h
    exact (hF hr (by simp [q, i0x4, i1x4, pd68, ex4_0_68]) rfl).1
   ·have h := cF hb6 h
    apply eY 6; simp [q, i0x4, i1x4, pd68, ex4_0_68]
    exact lm (hJ1 _ _ _ _ ⟨(IntKind.i64.wrap (v1 + 1)), h, by simp [q, i0x4, i1x4, pd68, ex4_0_68]⟩)
  ·have h := cF hb3 h
   refine Stk.ex rfl ?_
   apply eY 5; simp [q]
   obtain rfl := sj h
   exact (hF hr (by simp [q]) rfl).1
theorem ok_sCtArm (F : Nat) (a0 : (List AArm)) (φ1 : AArm → Option Bool) (g1 : FuncId) (first1 caps1 : List AV) (fr1 : freeL first1 = true ∧ freeL caps1 = true) (hφ1 : ∀ y0 r, φ1 y0 = some r → RunF Tryz.prog T.T g1 (first1 ++ [.agg (c68 y0)] ++ caps1) (.sc (.bool r))) (r : Bool) (h : sCtArm F a0 φ1 = some r) : RunF Tryz.prog T.T 177 [.ssl (encs c68 a0) a0.length false, .fn (.func g1) first1 caps1] (.sc (.bool r)) := by
  rw [sCtArm] at h
  refine RunF.z Tryz.func177 rfl rfl rfl rfl rfl (fun C hr => ?_)
  refine gn (fun t H n => t 0 = .ssl (encs c68 a0) a0.length false ∧ t 1 = .fn (.func g1) first1 caps1) ⟨by simp, by simp⟩ fun t H n q => ?_
  obtain ⟨x1, hx1, h⟩ := bnd h
  apply eY 8; simp [q]
  refine cw (ok_sIxArm F _ _ _ _ _ fr1 hφ1 _ hx1) (by simp [q]) rfl rfl (by simp [q]) (.cons (.free (freeL_encs fr68 _)) (.cons (.free (by simp [free, fr1])) (.nil))) rfl ?_
  rintro _ rfl
  apply eY 4; simp [q]
  obtain rfl := sj h
  exact (hF hr (by simp [q]) rfl).1
theorem ok_aev_AArm_1 (F : Nat) (a0 : AArm) (φ1 : AArm → Option Bool) (g1 : FuncId) (first1 caps1 : List AV) (fr1 : freeL first1 = true ∧ freeL caps1 = true) (hφ1 : ∀ y0 r, φ1 y0 = some r → RunF Tryz.prog T.T g1 (first1 ++ [.agg (c68 y0)] ++ caps1) (.sc (.bool r))) (r : Bool) (h : aev_AArm_1 F a0 φ1 = some r) : RunF Tryz.prog T.T 178 [.agg (c68 a0), .sh [.fn (.func g1) first1 caps1]] (.sc (.bool r)) := by
  rw [aev_AArm_1] at h
  refine RunF.z Tryz.func178 rfl rfl rfl rfl rfl (fun C hr => ?_)
  refine gn (fun t H n => t 0 = .agg (c68 a0) ∧ t 1 = .sh [.fn (.func g1) first1 caps1]) ⟨by simp, by simp⟩ fun t H n q => ?_
  apply eY 2; simp [q]
  refine gn (fun t H n => t 0 = .agg (c68 a0) ∧ t 1 = .sh [.fn (.func g1) first1 caps1]) (by simp [q]) fun t H n q => ?_
  refine Stk.om (mop_box T.t68 (cs := c68 a0) (by show partOk (t 0) = true; rw [q.1]; rfl) (by show cellsOf (t 0) = _; rw [q.1]; rfl)) (by simp [q]) rfl (fun t' ht' => ?_)
  refine gn (fun t H n => ∃ b1, t 1 = .sh [.fn (.func g1) first1 caps1] ∧ t 2 = .own b1 0 ∧ H b1 = some (.cells (c68 a0) 68) ∧ b1 < n) ⟨n, j2 (by simp [ht', q]) ⟨upd_same _ _ _, Nat.lt_succ_self _⟩⟩ fun t H n ⟨b1, q⟩ => ?_
  obtain ⟨x2, hx2, h⟩ := bnd h
  apply eY 6; simp [q, ldF157, ld_68_0_68]
  refine Stk.cv (g := g1) (first := first1) (caps := caps1) (args := first1 ++ [.agg (c68 a0)] ++ caps1) (args' := first1 ++ [.agg (c68 a0)] ++ caps1) (v := .sc (.bool x2)) [] (hφ1 _ _ hx2) (by simp [q, ldF157, ld_68_0_68]) rfl (by simp [q, ldF157, ld_68_0_68]) (by simp [q, ldF157, ld_68_0_68]) (viewL_mid (x := [.agg (c68 a0)]) (y := [.agg (c68 a0)]) fr1.1 fr1.2 (.cons (.free (fr68 _)) (.nil))) (.inl ⟨rfl, rfl⟩) ?_
  rintro _ rfl
  apply eY 4; simp [q, ldF157, ld_68_0_68]
  obtain rfl := sj h
  exact (hF hr (by simp [q, ldF157, ld_68_0_68]) rfl).1
attribute [-simp] Go.Proofs.YtappiofmkoelnaaGreatDoorW.Ah.splice
open Go.Proofs.YtappiofmkoelnaaGreatDoorW.Ah Go.Proofs.YtappiofmkoelnaaGreatDoor
set_option linter.unusedVariables false
set_option linter.unusedSimpArgs false
set_option maxRecDepth 8000
attribute [local simp] T.t2 T.t3 T.t4 T.t9 T.t29 T.t30 T.t31 T.t33 T.t37 T.t39 T.t45 T.t46 T.t68 T.t87 T.t153 T.t157 List.range List.range.loop
attribute [-simp] appendAV fillAV
@[simp] abbrev Q9_1 (a0 : (List AArm)) (a1 : Int) (a2 : Int) (t : Nat → AV) : Prop := t 0 = .ssl (encs c68 a0) a0.length false ∧ t 1 = .sc (.int .i64 a1) ∧ t 2 = .sc (.int .i64 a2)
theorem ok_aev_AArm (F : Nat) (a0 : (List AArm)) (a1 : Int) (a2 : Int) (φ3 : AArm → Option Bool) (g3 : FuncId) (first3 caps3 : List AV) (fr3 : freeL first3 = true ∧ freeL caps3 = true) (hφ3 : ∀ y0 r, φ3 y0 = some r → RunF Tryz.prog T.T g3 (first3 ++ [.agg (c68 y0)] ++ caps3) (.sc (.bool r))) (r : Bool) (h : aev_AArm F a0 a1 a2 φ3 = some r) : RunF Tryz.prog T.T 121 [.ssl (encs c68 a0) a0.length false, .sc (.int .i64 a1), .sc (.int .i64 a2), .fn (.func g3) first3 caps3] (.sc (.bool r)) := by
  rw [aev_AArm] at h
  refine RunF.z Tryz.func121 rfl rfl rfl rfl rfl (fun C hr => ?_)
  refine gn (fun t H n => Q9_1 a0 a1 a2 t ∧ t 3 = .fn (.func g3) first3 caps3) ⟨⟨by simp, by simp, by simp⟩, by simp⟩ fun t H n q => ?_
  apply eY 2; simp [q]
  refine gn (fun t H n => Q9_1 a0 a1 a2 t ∧ t 3 = .fn (.func g3) first3 caps3) (by simp [q]) fun t H n q => ?_
  refine Stk.om (mop_box T.t157 (cs := [.fn (.func g3) first3 caps3]) (by show partOk (t 3) = true; rw [q.2]; rfl) (by show cellsOf (t 3) = _; rw [q.2]; rfl)) (by simp [q]) rfl (fun t' ht' => ?_)
  refine gn (fun t H n => ∃ b1, Q9_1 a0 a1 a2 t ∧ t 7 = .own b1 0 ∧ H b1 = some (.cells ([.fn (.func g3) first3 caps3]) 157) ∧ b1 < n) ⟨n, j2 (by simp [ht', q]) ⟨upd_same _ _ _, Nat.lt_succ_self _⟩⟩ fun t H n ⟨b1, ⟨f0, f1, f2⟩, f7, b_b1, l_b1⟩ => ?_
  apply eY 9; simp [f0, f1, f2, f7, b_b1]
  refine Stk.gd 5 13 18 (fun z => .sc (.bool (z && (decide ((a0.length : Int) ≤ a2))))) (w := decide (a1 ≤ (a0.length : Int))) (by simp [f0, f1, f2, f7, b_b1]) (by simp [f0, f1, f2, f7, b_b1]) (by simp [f0, f1, f2, f7, b_b1]) ?_; simp [f0, f1, f2, f7, b_b1]
  apply eY 1; simp [f0, f1, f2, f7, b_b1]
  refine gn (fun t H n => t 0 = .ssl (encs c68 a0) a0.length false ∧ t 7 = .own b1 0 ∧ t 19 = .sc (.bool ((decide (a1 ≤ (a0.length : Int))) && (decide ((a0.length : Int) ≤ a2)))) ∧ H b1 = some (.cells ([.fn (.func g3) first3 caps3]) 157) ∧ b1 < n) (by and_intros <;> first | assumption | simp [f0, f1, f2, f7, b_b1]) fun t H n q => ?_
  obtain ⟨K1, hK1, h⟩ := jnd h
  refine Stk.jo 5 (fun t H n => ∃ v2 : Bool, K1 v2 = some r ∧ t 24 = .sc (.bool v2)) (fun J1 hJ1 => ?_) ?_
  · rcases Bool.eq_false_or_eq_true ((decide (a1 ≤ (a0.length : Int))) && (decide ((a0.length : Int) ≤ a2))) with hb1 | hb1
    · obtain ⟨f0, f7, f19, b_b1, l_b1⟩ := q
      rw [hb1] at f19
      replace h := cT hb1 h
      obtain ⟨x3, hx3, h⟩ := bnd h
      apply eY 2; simp [f0, f7, f19, b_b1]
      refine Stk.cv (g := 177) (args := [.ssl (encs c68 a0) a0.length false, .fn (.func 178) [] [.own b1 0]]) (args' := [.ssl (encs c68 a0) a0.length false, .fn (.func 178) [] [.sh [.fn (.func g3) first3 caps3]]]) (v := .sc (.bool x3)) [b1] (ok_sCtArm F _ _ 178 [] [.sh [.fn (.func g3) first3 caps3]] (by and_intros <;> first | assumption | simp [freeL, free, fr3]) (fun y0 r h => ok_aev_AArm_1 F y0 _ _ _ _ fr3 hφ3 r h) _ hx3) (by simp [f0, f7, f19, b_b1]) rfl rfl (by simp [f0, f7, f19, b_b1]) (.cons (.free (freeL_encs fr68 _)) (.cons (.fn .nil (.cons (view_blk b_b1 (by simp) (by simp [freeL, free, fr3])) (.nil))) (.nil))) (.inr rfl) ?_
      rintro _ rfl
      apply eY 3; simp [f0, f7, f19, b_b1]
      exact l0 (hJ1 _ _ _ ⟨(!x3), h, by simp [f0, f7, f19, b_b1]⟩)
    · obtain ⟨f0, f7, f19, b_b1, l_b1⟩ := q
      rw [hb1] at f19
      replace h := cF hb1 h
      apply eY 6; simp [f0, f7, f19, b_b1]
      exact l0 (hJ1 _ _ _ ⟨false, h, by simp [f0, f7, f19, b_b1]⟩)
  clear q h
  rintro t H n ⟨v2, h, q⟩
  subst hK1
  apply eY 3; simp [q]
  obtain rfl := sj h
  exact (hF hr (by simp [q]) rfl).1
theorem ok_sIxExpr (F : Nat) (a0 : (List AExpr)) (φ1 : AExpr → Option Bool) (g1 : FuncId) (first1 caps1 : List AV) (fr1 : freeL first1 = true ∧ freeL caps1 = true) (hφ1 : ∀ y0 r, φ1 y0 = some r → RunF Tryz.prog T.T g1 (first1 ++ [.agg (c33 y0)] ++ caps1) (.sc (.bool r))) (r : Int) (h : sIxExpr F a0 φ1 = some r) : RunF Tryz.prog T.T 203 [.ssl (encs c33 a0) a0.length false, .fn (.func g1) first1 caps1] (.sc (.int .i64 r)) := by
  rw [sIxExpr] at h
  refine RunF.z Tryz.func203 rfl rfl rfl rfl rfl (fun C hr => ?_)
  refine gn (fun t H n => t 0 = .ssl (encs c33 a0) a0.length false ∧ t 1 = .fn (.func g1) first1 caps1) ⟨by simp, by simp⟩ fun t H n q => ?_
  apply eY 12; simp [q]
  refine gn (fun t H n => t 0 = .ssl (encs c33 a0) a0.length false ∧ t 1 = .fn (.func g1) first1 caps1 ∧ t 7 = .sc (.int .i64 (a0.length : Int)) ∧ t 8 = .sc (.int .i64 0)) (by simp [q]) fun t H n q => ?_
  refine Stk.lo (fun μ t H n => ∃ v1 : Int, sIxExpr_L0 F a0 φ1 μ v1 = some r ∧ t 0 = .ssl (encs c33 a0) a0.length false ∧ t 1 = .fn (.func g1) first1 caps1 ∧ t 7 = .sc (.int .i64 (a0.length : Int)) ∧ t 8 = .sc (.int .i64 v1)) F ⟨0, h, q⟩ ?_
  clear q h
  rintro J1 hJ1 μ t H n ⟨v1, h, q⟩
  cases μ with
  | zero => exact absurd h (by simp [sIxExpr_L0])
  | succ μ =>
  rw [sIxExpr_L0] at h
  apply eY 5; simp [q]
  refine cd (decide (v1 < (a0.length : Int))) (by simp [q]) (fun hb3 => ?_) (fun hb3 => ?_)
  ·have h := cT hb3 h
   obtain ⟨x4, hx4, h⟩ := bnd h
   obtain ⟨i0x4, i1x4, i2x4, _⟩ := idx_ok hx4
   have ex4_0_33 : partOf T.T 33 (encs c33 a0) (v1.toNat * 8) = some (.agg (c33 x4)) := (part_elem0 (e := c33) (z := 8) (ty := 33) T.t33 (by decide) (by decide) hx4 0 (by decide)).trans (ld_33_0_33 _)
   obtain ⟨x5, hx5, h⟩ := bnd h
   apply eY 15; simp [q, i0x4, i1x4, pd33, ex4_0_33]
   refine Stk.cv (g := g1) (first := first1) (caps := caps1) (args := first1 ++ [.agg (c33 x4)] ++ caps1) (args' := first1 ++ [.agg (c33 x4)] ++ caps1) (v := .sc (.bool x5)) [] (hφ1 _ _ hx5) (by simp [q, i0x4, i1x4, pd33, ex4_0_33]) rfl (by simp [q, i0x4, i1x4, pd33, ex4_0_33]) (by simp [q, i0x4, i1x4, pd33, ex4_0_33]) (viewL_mid (x := [.agg (c33 x4)]) (y := [.agg (c33 x4)]) fr1.1 fr1.2 (.cons (.free (fr33 _)) (.nil))) (.inl ⟨rfl, rfl⟩) ?_
   rintro _ rfl
   apply eY 1; simp [q, i0x4, i1x4, pd33, ex4_0_33]
   refine cd x5 (by simp [q, i0x4, i1x4, pd33, ex4_0_33]) (fun hb6 => ?_) (fun hb6 => ?_)
   ·have h := cT hb6 h
    apply eY 6; simp [q, i0x4, i1x4, pd33, ex4_0_33]
    obtain rfl := sj h
    exact (hF hr (by simp [q, i0x4, i1x4, pd33, ex4_0_33]) rfl).1
   ·have h := cF hb6 h
    apply eY 6; simp [q, i0x4, i1x4, pd33, ex4_0_33]
    exact lm (hJ1 _ _ _ _ ⟨(IntKind.i64.wrap (v1 + 1)), h, by simp [q, i0x4, i1x4, pd33, ex4_0_33]⟩)
  ·have h := cF hb3 h
   refine Stk.ex rfl ?_
   apply eY 5; simp [q]
   obtain rfl := sj h
   exact (hF hr (by simp [q]) rfl).1
theorem ok_sCtExpr (F : Nat) (a0 : (List AExpr)) (φ1 : AExpr → Option Bool) (g1 : FuncId) (first1 caps1 : List AV) (fr1 : freeL first1 = true ∧ freeL caps1 = true) (hφ1 : ∀ y0 r, φ1 y0 = some r → RunF Tryz.prog T.T g1 (first1 ++ [.agg (c33 y0)] ++ caps1) (.sc (.bool r))) (r : Bool) (h : sCtExpr F a0 φ1 = some r) : RunF Tryz.prog T.T 179 [.ssl (encs c33 a0) a0.length false, .fn (.func g1) first1 caps1] (.sc (.bool r)) := by
  rw [sCtExpr] at h
  refine RunF.z Tryz.func179 rfl rfl rfl rfl rfl (fun C hr => ?_)
  refine gn (fun t H n => t 0 = .ssl (encs c33 a0) a0.length false ∧ t 1 = .fn (.func g1) first1 caps1) ⟨by simp, by simp⟩ fun t H n q => ?_
  obtain ⟨x1, hx1, h⟩ := bnd h
  apply eY 8; simp [q]
  refine cw (ok_sIxExpr F _ _ _ _ _ fr1 hφ1 _ hx1) (by simp [q]) rfl rfl (by simp [q]) (.cons (.free (freeL_encs fr33 _)) (.cons (.free (by simp [free, fr1])) (.nil))) rfl ?_
  rintro _ rfl
  apply eY 4; simp [q]
  obtain rfl := sj h
  exact (hF hr (by simp [q]) rfl).1
theorem ok_aev_AExpr_1 (F : Nat) (a0 : AExpr) (φ1 : AExpr → Option Bool) (g1 : FuncId) (first1 caps1 : List AV) (fr1 : freeL first1 = true ∧ freeL caps1 = true) (hφ1 : ∀ y0 r, φ1 y0 = some r → RunF Tryz.prog T.T g1 (first1 ++ [.agg (c33 y0)] ++ caps1) (.sc (.bool r))) (r : Bool) (h : aev_AExpr_1 F a0 φ1 = some r) : RunF Tryz.prog T.T 180 [.agg (c33 a0), .sh [.fn (.func g1) first1 caps1]] (.sc (.bool r)) := by
  rw [aev_AExpr_1] at h
  refine RunF.z Tryz.func180 rfl rfl rfl rfl rfl (fun C hr => ?_)
  refine gn (fun t H n => t 0 = .agg (c33 a0) ∧ t 1 = .sh [.fn (.func g1) first1 caps1]) ⟨by simp, by simp⟩ fun t H n q => ?_
  apply eY 2; simp [q]
  refine gn (fun t H n => t 0 = .agg (c33 a0) ∧ t 1 = .sh [.fn (.func g1) first1 caps1]) (by simp [q]) fun t H n q => ?_
  refine Stk.om (mop_box T.t33 (cs := c33 a0) (by show partOk (t 0) = true; rw [q.1]; rfl) (by show cellsOf (t 0) = _; rw [q.1]; rfl)) (by simp [q]) rfl (fun t' ht' => ?_)
  refine gn (fun t H n => ∃ b1, t 1 = .sh [.fn (.func g1) first1 caps1] ∧ t 2 = .own b1 0 ∧ H b1 = some (.cells (c33 a0) 33) ∧ b1 < n) ⟨n, j2 (by simp [ht', q]) ⟨upd_same _ _ _, Nat.lt_succ_self _⟩⟩ fun t H n ⟨b1, q⟩ => ?_
  obtain ⟨x2, hx2, h⟩ := bnd h
  apply eY 6; simp [q, ldF45, ld_33_0_33]
  refine Stk.cv (g := g1) (first := first1) (caps := caps1) (args := first1 ++ [.agg (c33 a0)] ++ caps1) (args' := first1 ++ [.agg (c33 a0)] ++ caps1) (v := .sc (.bool x2)) [] (hφ1 _ _ hx2) (by simp [q, ldF45, ld_33_0_33]) rfl (by simp [q, ldF45, ld_33_0_33]) (by simp [q, ldF45, ld_33_0_33]) (viewL_mid (x := [.agg (c33 a0)]) (y := [.agg (c33 a0)]) fr1.1 fr1.2 (.cons (.free (fr33 _)) (.nil))) (.inl ⟨rfl, rfl⟩) ?_
  rintro _ rfl
  apply eY 4; simp [q, ldF45, ld_33_0_33]
  obtain rfl := sj h
  exact (hF hr (by simp [q, ldF45, ld_33_0_33]) rfl).1
@[simp] abbrev Q9_2 (a0 : (List AExpr)) (a1 : Int) (a2 : Int) (t : Nat → AV) : Prop := t 0 = .ssl (encs c33 a0) a0.length false ∧ t 1 = .sc (.int .i64 a1) ∧ t 2 = .sc (.int .i64 a2)
theorem ok_aev_AExpr (F : Nat) (a0 : (List AExpr)) (a1 : Int) (a2 : Int) (φ3 : AExpr → Option Bool) (g3 : FuncId) (first3 caps3 : List AV) (fr3 : freeL first3 = true ∧ freeL caps3 = true) (hφ3 : ∀ y0 r, φ3 y0 = some r → RunF Tryz.prog T.T g3 (first3 ++ [.agg (c33 y0)] ++ caps3) (.sc (.bool r))) (r : Bool) (h : aev_AExpr F a0 a1 a2 φ3 = some r) : RunF Tryz.prog T.T 123 [.ssl (encs c33 a0) a0.length false, .sc (.int .i64 a1), .sc (.int .i64 a2), .fn (.func g3) first3 caps3] (.sc (.bool r)) := by
  rw [aev_AExpr] at h
  refine RunF.z Tryz.func123 rfl rfl rfl rfl rfl (fun C hr => ?_)
  refine gn (fun t H n => Q9_2 a0 a1 a2 t ∧ t 3 = .fn (.func g3) first3 caps3) ⟨⟨by simp, by simp, by simp⟩, by simp⟩ fun t H n q => ?_
  apply eY 2; simp [q]
  refine gn (fun t H n => Q9_2 a0 a1 a2 t ∧ t 3 = .fn (.func g3) first3 caps3) (by simp [q]) fun t H n q => ?_
  refine Stk.om (mop_box T.t45 (cs := [.fn (.func g3) first3 caps3]) (by show partOk (t 3) = true; rw [q.2]; rfl) (by show cellsOf (t 3) = _; rw [q.2]; rfl)) (by simp [q]) rfl (fun t' ht' => ?_)
  refine gn (fun t H n => ∃ b1, Q9_2 a0 a1 a2 t ∧ t 7 = .own b1 0 ∧ H b1 = some (.cells ([.fn (.func g3) first3 caps3]) 45) ∧ b1 < n) ⟨n, j2 (by simp [ht', q]) ⟨upd_same _ _ _, Nat.lt_succ_self _⟩⟩ fun t H n ⟨b1, ⟨f0, f1, f2⟩, f7, b_b1, l_b1⟩ => ?_
  apply eY 9; simp [f0, f1, f2, f7, b_b1]
  refine Stk.gd 5 13 18 (fun z => .sc (.bool (z && (decide ((a0.length : Int) ≤ a2))))) (w := decide (a1 ≤ (a0.length : Int))) (by simp [f0, f1, f2, f7, b_b1]) (by simp [f0, f1, f2, f7, b_b1]) (by simp [f0, f1, f2, f7, b_b1]) ?_; simp [f0, f1, f2, f7, b_b1]
  apply eY 1; simp [f0, f1, f2, f7, b_b1]
  refine gn (fun t H n => t 0 = .ssl (encs c33 a0) a0.length false ∧ t 7 = .own b1 0 ∧ t 19 = .sc (.bool ((decide (a1 ≤ (a0.length : Int))) && (decide ((a0.length : Int) ≤ a2)))) ∧ H b1 = some (.cells ([.fn (.func g3) first3 caps3]) 45) ∧ b1 < n) (by and_intros <;> first | assumption | simp [f0, f1, f2, f7, b_b1]) fun t H n q => ?_
  obtain ⟨K1, hK1, h⟩ := jnd h
  refine Stk.jo 5 (fun t H n => ∃ v2 : Bool, K1 v2 = some r ∧ t 24 = .sc (.bool v2)) (fun J1 hJ1 => ?_) ?_
  · rcases Bool.eq_false_or_eq_true ((decide (a1 ≤ (a0.length : Int))) && (decide ((a0.length : Int) ≤ a2))) with hb1 | hb1
    · obtain ⟨f0, f7, f19, b_b1, l_b1⟩ := q
      rw [hb1] at f19
      replace h := cT hb1 h
      obtain ⟨x3, hx3, h⟩ := bnd h
      apply eY 2; simp [f0, f7, f19, b_b1]
      refine Stk.cv (g := 179) (args := [.ssl (encs c33 a0) a0.length false, .fn (.func 180) [] [.own b1 0]]) (args' := [.ssl (encs c33 a0) a0.length false, .fn (.func 180) [] [.sh [.fn (.func g3) first3 caps3]]]) (v := .sc (.bool x3)) [b1] (ok_sCtExpr F _ _ 180 [] [.sh [.fn (.func g3) first3 caps3]] (by and_intros <;> first | assumption | simp [freeL, free, fr3]) (fun y0 r h => ok_aev_AExpr_1 F y0 _ _ _ _ fr3 hφ3 r h) _ hx3) (by simp [f0, f7, f19, b_b1]) rfl rfl (by simp [f0, f7, f19, b_b1]) (.cons (.free (freeL_encs fr33 _)) (.cons (.fn .nil (.cons (view_blk b_b1 (by simp) (by simp [freeL, free, fr3])) (.nil))) (.nil))) (.inr rfl) ?_
      rintro _ rfl
      apply eY 3; simp [f0, f7, f19, b_b1]
      exact l0 (hJ1 _ _ _ ⟨(!x3), h, by simp [f0, f7, f19, b_b1]⟩)
    · obtain ⟨f0, f7, f19, b_b1, l_b1⟩ := q
      rw [hb1] at f19
      replace h := cF hb1 h
      apply eY 6; simp [f0, f7, f19, b_b1]
      exact l0 (hJ1 _ _ _ ⟨false, h, by simp [f0, f7, f19, b_b1]⟩)
  clear q h
  rintro t H n ⟨v2, h, q⟩
  subst hK1
  apply eY 3; simp [q]
  obtain rfl := sj h
  exact (hF hr (by simp [q]) rfl).1
theorem ok_sIxPat (F : Nat) (a0 : (List APat)) (φ1 : APat → Option Bool) (g1 : FuncId) (first1 caps1 : List AV) (fr1 : freeL first1 = true ∧ freeL caps1 = true) (hφ1 : ∀ y0 r, φ1 y0 = some r → RunF Tryz.prog T.T g1 (first1 ++ [.agg (c39 y0)] ++ caps1) (.sc (.bool r))) (r : Int) (h : sIxPat F a0 φ1 = some r) : RunF Tryz.prog T.T 204 [.ssl (encs c39 a0) a0.length false, .fn (.func g1) first1 caps1] (.sc (.int .i64 r)) := by
  rw [sIxPat] at h
  refine RunF.z Tryz.func204 rfl rfl rfl rfl rfl (fun C hr => ?_)
  refine gn (fun t H n => t 0 = .ssl (encs c39 a0) a0.length false ∧ t 1 = .fn (.func g1) first1 caps1) ⟨by simp, by simp⟩ fun t H n q => ?_
  apply eY 12; simp [q]
  refine gn (fun t H n => t 0 = .ssl (encs c39 a0) a0.length false ∧ t 1 = .fn (.func g1) first1 caps1 ∧ t 7 = .sc (.int .i64 (a0.length : Int)) ∧ t 8 = .sc (.int .i64 0)) (by simp [q]) fun t H n q => ?_
  refine Stk.lo (fun μ t H n => ∃ v1 : Int, sIxPat_L0 F a0 φ1 μ v1 = some r ∧ t 0 = .ssl (encs c39 a0) a0.length false ∧ t 1 = .fn (.func g1) first1 caps1 ∧ t 7 = .sc (.int .i64 (a0.length : Int)) ∧ t 8 = .sc (.int .i64 v1)) F ⟨0, h, q⟩ ?_
  clear q h
  rintro J1 hJ1 μ t H n ⟨v1, h, q⟩
  cases μ with
  | zero => exact absurd h (by simp [sIxPat_L0])
  | succ μ =>
  rw [sIxPat_L0] at h
  apply eY 5; simp [q]
  refine cd (decide (v1 < (a0.length : Int))) (by simp [q]) (fun hb3 => ?_) (fun hb3 => ?_)
  ·have h := cT hb3 h
   obtain ⟨x4, hx4, h⟩ := bnd h
   obtain ⟨i0x4, i1x4, i2x4, _⟩ := idx_ok hx4
   have ex4_0_39 : partOf T.T 39 (encs c39 a0) (v1.toNat * 6) = some (.agg (c39 x4)) := (part_elem0 (e := c39) (z := 6) (ty := 39) T.t39 (by decide) (by decide) hx4 0 (by decide)).trans (ld_39_0_39 _)
   obtain ⟨x5, hx5, h⟩ := bnd h
   apply eY 15; simp [q, i0x4, i1x4, pd39, ex4_0_39]
   refine Stk.cv (g := g1) (first := first1) (caps := caps1) (args := first1 ++ [.agg (c39 x4)] ++ caps1) (args' := first1 ++ [.agg (c39 x4)] ++ caps1) (v := .sc (.bool x5)) [] (hφ1 _ _ hx5) (by simp [q, i0x4, i1x4, pd39, ex4_0_39]) rfl (by simp [q, i0x4, i1x4, pd39, ex4_0_39]) (by simp [q, i0x4, i1x4, pd39, ex4_0_39]) (viewL_mid (x := [.agg (c39 x4)]) (y := [.agg (c39 x4)]) fr1.1 fr1.2 (.cons (.free (fr39 _)) (.nil))) (.inl ⟨rfl, rfl⟩) ?_
   rintro _ rfl
   apply eY 1; simp [q, i0x4, i1x4, pd39, ex4_0_39]
   refine cd x5 (by simp [q, i0x4, i1x4, pd39, ex4_0_39]) (fun hb6 => ?_) (fun hb6 => ?_)
   ·have h := cT hb6 h
    apply eY 6; simp [q, i0x4, i1x4, pd39, ex4_0_39]
    obtain rfl := sj h
    exact (hF hr (by simp [q, i0x4, i1x4, pd39, ex4_0_39]) rfl).1
   ·have h := cF hb6 h
    apply eY 6; simp [q, i0x4, i1x4, pd39, ex4_0_39]
    exact lm (hJ1 _ _ _ _ ⟨(IntKind.i64.wrap (v1 + 1)), h, by simp [q, i0x4, i1x4, pd39, ex4_0_39]⟩)
  ·have h := cF hb3 h
   refine Stk.ex rfl ?_
   apply eY 5; simp [q]
   obtain rfl := sj h
   exact (hF hr (by simp [q]) rfl).1
theorem ok_sCtPat (F : Nat) (a0 : (List APat)) (φ1 : APat → Option Bool) (g1 : FuncId) (first1 caps1 : List AV) (fr1 : freeL first1 = true ∧ freeL caps1 = true) (hφ1 : ∀ y0 r, φ1 y0 = some r → RunF Tryz.prog T.T g1 (first1 ++ [.agg (c39 y0)] ++ caps1) (.sc (.bool r))) (r : Bool) (h : sCtPat F a0 φ1 = some r) : RunF Tryz.prog T.T 182 [.ssl (encs c39 a0) a0.length false, .fn (.func g1) first1 caps1] (.sc (.bool r)) := by
  rw [sCtPat] at h
  refine RunF.z Tryz.func182 rfl rfl rfl rfl rfl (fun C hr => ?_)
  refine gn (fun t H n => t 0 = .ssl (encs c39 a0) a0.length false ∧ t 1 = .fn (.func g1) first1 caps1) ⟨by simp, by simp⟩ fun t H n q => ?_
  obtain ⟨x1, hx1, h⟩ := bnd h
  apply eY 8; simp [q]
  refine cw (ok_sIxPat F _ _ _ _ _ fr1 hφ1 _ hx1) (by simp [q]) rfl rfl (by simp [q]) (.cons (.free (freeL_encs fr39 _)) (.cons (.free (by simp [free, fr1])) (.nil))) rfl ?_
  rintro _ rfl
  apply eY 4; simp [q]
  obtain rfl := sj h
  exact (hF hr (by simp [q]) rfl).1
theorem ok_aev_APat_1 (F : Nat) (a0 : APat) (φ1 : APat → Option Bool) (g1 : FuncId) (first1 caps1 : List AV) (fr1 : freeL first1 = true ∧ freeL caps1 = true) (hφ1 : ∀ y0 r, φ1 y0 = some r → RunF Tryz.prog T.T g1 (first1 ++ [.agg (c39 y0)] ++ caps1) (.sc (.bool r))) (r : Bool) (h : aev_APat_1 F a0 φ1 = some r) : RunF Tryz.prog T.T 183 [.agg (c39 a0), .sh [.fn (.func g1) first1 caps1]] (.sc (.bool r)) := by
  rw [aev_APat_1] at h
  refine RunF.z Tryz.func183 rfl rfl rfl rfl rfl (fun C hr => ?_)
  refine gn (fun t H n => t 0 = .agg (c39 a0) ∧ t 1 = .sh [.fn (.func g1) first1 caps1]) ⟨by simp, by simp⟩ fun t H n q => ?_
  apply eY 2; simp [q]
  refine gn (fun t H n => t 0 = .agg (c39 a0) ∧ t 1 = .sh [.fn (.func g1) first1 caps1]) (by simp [q]) fun t H n q => ?_
  refine Stk.om (mop_box T.t39 (cs := c39 a0) (by show partOk (t 0) = true; rw [q.1]; rfl) (by show cellsOf (t 0) = _; rw [q.1]; rfl)) (by simp [q]) rfl (fun t' ht' => ?_)
  refine gn (fun t H n => ∃ b1, t 1 = .sh [.fn (.func g1) first1 caps1] ∧ t 2 = .own b1 0 ∧ H b1 = some (.cells (c39 a0) 39) ∧ b1 < n) ⟨n, j2 (by simp [ht', q]) ⟨upd_same _ _ _, Nat.lt_succ_self _⟩⟩ fun t H n ⟨b1, q⟩ => ?_
  obtain ⟨x2, hx2, h⟩ := bnd h
  apply eY 6; simp [q, ldF46, ld_39_0_39]
  refine Stk.cv (g := g1) (first := first1) (caps := caps1) (args := first1 ++ [.agg (c39 a0)] ++ caps1) (args' := first1 ++ [.agg (c39 a0)] ++ caps1) (v := .sc (.bool x2)) [] (hφ1 _ _ hx2) (by simp [q, ldF46, ld_39_0_39]) rfl (by simp [q, ldF46, ld_39_0_39]) (by simp [q, ldF46, ld_39_0_39]) (viewL_mid (x := [.agg (c39 a0)]) (y := [.agg (c39 a0)]) fr1.1 fr1.2 (.cons (.free (fr39 _)) (.nil))) (.inl ⟨rfl, rfl⟩) ?_
  rintro _ rfl
  apply eY 4; simp [q, ldF46, ld_39_0_39]
  obtain rfl := sj h
  exact (hF hr (by simp [q, ldF46, ld_39_0_39]) rfl).1
@[simp] abbrev Q9_3 (a0 : (List APat)) (a1 : Int) (a2 : Int) (t : Nat → AV) : Prop := t 0 = .ssl (encs c39 a0) a0.length false ∧ t 1 = .sc (.int .i64 a1) ∧ t 2 = .sc (.int .i64 a2)
theorem ok_aev_APat (F : Nat) (a0 : (List APat)) (a1 : Int) (a2 : Int) (φ3 : APat → Option Bool) (g3 : FuncId) (first3 caps3 : List AV) (fr3 : freeL first3 = true ∧ freeL caps3 = true) (hφ3 : ∀ y0 r, φ3 y0 = some r → RunF Tryz.prog T.T g3 (first3 ++ [.agg (c39 y0)] ++ caps3) (.sc (.bool r))) (r : Bool) (h : aev_APat F a0 a1 a2 φ3 = some r) : RunF Tryz.prog T.T 127 [.ssl (encs c39 a0) a0.length false, .sc (.int .i64 a1), .sc (.int .i64 a2), .fn (.func g3) first3 caps3] (.sc (.bool r)) := by
  rw [aev_APat] at h
  refine RunF.z Tryz.func127 rfl rfl rfl rfl rfl (fun C hr => ?_)
  refine gn (fun t H n => Q9_3 a0 a1 a2 t ∧ t 3 = .fn (.func g3) first3 caps3) ⟨⟨by simp, by simp, by simp⟩, by simp⟩ fun t H n q => ?_
  apply eY 2; simp [q]
  refine gn (fun t H n => Q9_3 a0 a1 a2 t ∧ t 3 = .fn (.func g3) first3 caps3) (by simp [q]) fun t H n q => ?_
  refine Stk.om (mop_box T.t46 (cs := [.fn (.func g3) first3 caps3]) (by show partOk (t 3) = true; rw [q.2]; rfl) (by show cellsOf (t 3) = _; rw [q.2]; rfl)) (by simp [q]) rfl (fun t' ht' => ?_)
  refine gn (fun t H n => ∃ b1, Q9_3 a0 a1 a2 t ∧ t 7 = .own b1 0 ∧ H b1 = some (.cells ([.fn (.func g3) first3 caps3]) 46) ∧ b1 < n) ⟨n, j2 (by simp [ht', q]) ⟨upd_same _ _ _, Nat.lt_succ_self _⟩⟩ fun t H n ⟨b1, ⟨f0, f1, f2⟩, f7, b_b1, l_b1⟩ => ?_
  apply eY 9; simp [f0, f1, f2, f7, b_b1]
  refine Stk.gd 5 13 18 (fun z => .sc (.bool (z && (decide ((a0.length : Int) ≤ a2))))) (w := decide (a1 ≤ (a0.length : Int))) (by simp [f0, f1, f2, f7, b_b1]) (by simp [f0, f1, f2, f7, b_b1]) (by simp [f0, f1, f2, f7, b_b1]) ?_; simp [f0, f1, f2, f7, b_b1]
  apply eY 1; simp [f0, f1, f2, f7, b_b1]
  refine gn (fun t H n => t 0 = .ssl (encs c39 a0) a0.length false ∧ t 7 = .own b1 0 ∧ t 19 = .sc (.bool ((decide (a1 ≤ (a0.length : Int))) && (decide ((a0.length : Int) ≤ a2)))) ∧ H b1 = some (.cells ([.fn (.func g3) first3 caps3]) 46) ∧ b1 < n) (by and_intros <;> first | assumption | simp [f0, f1, f2, f7, b_b1]) fun t H n q => ?_
  obtain ⟨K1, hK1, h⟩ := jnd h
  refine Stk.jo 5 (fun t H n => ∃ v2 : Bool, K1 v2 = some r ∧ t 24 = .sc (.bool v2)) (fun J1 hJ1 => ?_) ?_
  · rcases Bool.eq_false_or_eq_true ((decide (a1 ≤ (a0.length : Int))) && (decide ((a0.length : Int) ≤ a2))) with hb1 | hb1
    · obtain ⟨f0, f7, f19, b_b1, l_b1⟩ := q
      rw [hb1] at f19
      replace h := cT hb1 h
      obtain ⟨x3, hx3, h⟩ := bnd h
      apply eY 2; simp [f0, f7, f19, b_b1]
      refine Stk.cv (g := 182) (args := [.ssl (encs c39 a0) a0.length false, .fn (.func 183) [] [.own b1 0]]) (args' := [.ssl (encs c39 a0) a0.length false, .fn (.func 183) [] [.sh [.fn (.func g3) first3 caps3]]]) (v := .sc (.bool x3)) [b1] (ok_sCtPat F _ _ 183 [] [.sh [.fn (.func g3) first3 caps3]] (by and_intros <;> first | assumption | simp [freeL, free, fr3]) (fun y0 r h => ok_aev_APat_1 F y0 _ _ _ _ fr3 hφ3 r h) _ hx3) (by simp [f0, f7, f19, b_b1]) rfl rfl (by simp [f0, f7, f19, b_b1]) (.cons (.free (freeL_encs fr39 _)) (.cons (.fn .nil (.cons (view_blk b_b1 (by simp) (by simp [freeL, free, fr3])) (.nil))) (.nil))) (.inr rfl) ?_
      rintro _ rfl
      apply eY 3; simp [f0, f7, f19, b_b1]
      exact l0 (hJ1 _ _ _ ⟨(!x3), h, by simp [f0, f7, f19, b_b1]⟩)
    · obtain ⟨f0, f7, f19, b_b1, l_b1⟩ := q
      rw [hb1] at f19
      replace h := cF hb1 h
      apply eY 6; simp [f0, f7, f19, b_b1]
      exact l0 (hJ1 _ _ _ ⟨false, h, by simp [f0, f7, f19, b_b1]⟩)
  clear q h
  rintro t H n ⟨v2, h, q⟩
  subst hK1
  apply eY 3; simp [q]
  obtain rfl := sj h
  exact (hF hr (by simp [q]) rfl).1
@[simp] abbrev Q9_4 (a0 : Int) (a1 : APat) (b1 : Nat) (t : Nat → AV) (H : Mem) (n : Nat) : Prop := t 0 = .sc (.int .i64 a0) ∧ t 3 = .own b1 0 ∧ H b1 = some (.cells (c39 a1) 39) ∧ b1 < n
theorem okB_ad_fitPat (F : Nat) (ρ49 : Int → APat → Option Bool) (hρ49 : ∀ a0 a1 r, ρ49 a0 a1 = some r → RunF Tryz.prog T.T 49 [.sc (.int .i64 a0), .agg (c39 a1)] (.sc (.bool r))) (a0 : Int) (a1 : APat) (r : Bool) (h : ad_fitPat_B F ρ49 a0 a1 = some r) : RunF Tryz.prog T.T 49 [.sc (.int .i64 a0), .agg (c39 a1)] (.sc (.bool r)) := by
  rw [ad_fitPat_B] at h
  refine RunF.z Tryz.func49 rfl rfl rfl rfl rfl (fun C hr => ?_)
  refine gn (fun t H n => t 0 = .sc (.int .i64 a0) ∧ t 1 = .agg (c39 a1)) ⟨by simp, by simp⟩ fun t H n q => ?_
  apply eY 2; simp [q]
  refine gn (fun t H n => t 0 = .sc (.int .i64 a0) ∧ t 1 = .agg (c39 a1)) (by simp [q]) fun t H n q => ?_
  refine Stk.om (mop_box T.t39 (cs := c39 a1) (by show partOk (t 1) = true; rw [q.2]; rfl) (by show cellsOf (t 1) = _; rw [q.2]; rfl)) (by simp [q]) rfl (fun t' ht' => ?_)
  refine gn (fun t H n => ∃ b1, t 0 = .sc (.int .i64 a0) ∧ t 3 = .own b1 0 ∧ H b1 = some (.cells (c39 a1) 39) ∧ b1 < n) ⟨n, j2 (by simp [ht', q]) ⟨upd_same _ _ _, Nat.lt_succ_self _⟩⟩ fun t H n ⟨b1, q⟩ => ?_
  apply eY 8; simp [q]
  refine gn (fun t H n => Q9_4 a0 a1 b1 t H n ∧ t 10 = .sc (.bool (decide (a0 < 1)))) (by simp [q]) fun t H n q => ?_
  refine Stk.jo 9 (fun t H n => t 0 = .sc (.int .i64 a0) ∧ t 3 = .own b1 0 ∧ t 19 = .sc (.bool ((decide (a0 < 1)) || ((a1.Num != 0) && (a1.Kind != 2)))) ∧ H b1 = some (.cells (c39 a1) 39) ∧ b1 < n) (fun J1 hJ1 => ?_) ?_
  · rcases Bool.eq_false_or_eq_true (decide (a0 < 1)) with hb1 | hb1
    · obtain ⟨⟨f0, f3, b_b1, l_b1⟩, f10⟩ := q
      rw [hb1] at f10
      apply eY 10; simp [f0, f3, f10, b_b1]
      refine gn (fun t H n => Q9_4 a0 a1 b1 t H n ∧ t 19 = .sc (.bool true)) (by simp [f0, f3, f10, b_b1, l_b1]) fun t H n q => ?_
      exact l0 (hJ1 _ _ _ ⟨q.1.1, q.1.2.1, q.2.trans (congrArg (fun q => AV.sc (.bool q)) (by rw [hb1]; rfl)), q.1.2.2.1, q.1.2.2.2⟩)
    · obtain ⟨⟨f0, f3, b_b1, l_b1⟩, f10⟩ := q
      rw [hb1] at f10
      apply eY 4; simp [f0, f3, f10, b_b1, ld_39_4_2]
      refine gn (fun t H n => Q9_4 a0 a1 b1 t H n ∧ t 10 = .sc (.bool false) ∧ t 14 = .sc (.bool (a1.Num != 0))) (by simp [f0, f3, f10, b_b1, ld_39_4_2, l_b1]) fun t H n q => ?_
      refine Stk.jo 4 (fun t H n => t 0 = .sc (.int .i64 a0) ∧ t 3 = .own b1 0 ∧ t 10 = .sc (.bool false) ∧ t 18 = .sc (.bool ((a1.Num != 0) && (a1.Kind != 2))) ∧ H b1 = some (.cells (c39 a1) 39) ∧ b1 < n) (fun J2 hJ2 => ?_) ?_
      · rcases Bool.eq_false_or_eq_true (a1.Num != 0) with hb2 | hb2
        · obtain ⟨⟨f0, f3, b_b1, l_b1⟩, f10, f14⟩ := q
          rw [hb2] at f14
          apply eY 5; simp [f0, f3, f10, f14, b_b1, ld_39_0_3]
          refine gn (fun t H n => Q9_4 a0 a1 b1 t H n ∧ t 10 = .sc (.bool false) ∧ t 18 = .sc (.bool (a1.Kind != 2))) (by simp [f0, f3, f10, f14, b_b1, ld_39_0_3, l_b1]) fun t H n q => ?_
          exact l0 (hJ2 _ _ _ ⟨q.1.1, q.1.2.1, q.2.1, q.2.2.trans (congrArg (fun q => AV.sc (.bool q)) (by rw [hb2]; rfl)), q.1.2.2.1, q.1.2.2.2⟩)
        · obtain ⟨⟨f0, f3, b_b1, l_b1⟩, f10, f14⟩ := q
          rw [hb2] at f14
          apply eY 5; simp [f0, f3, f10, f14, b_b1]
          refine gn (fun t H n => Q9_4 a0 a1 b1 t H n ∧ t 10 = .sc (.bool false) ∧ t 18 = .sc (.bool false)) (by simp [f0, f3, f10, f14, b_b1, l_b1]) fun t H n q => ?_
          exact l0 (hJ2 _ _ _ ⟨q.1.1, q.1.2.1, q.2.1, q.2.2.trans (congrArg (fun q => AV.sc (.bool q)) (by rw [hb2]; rfl)), q.1.2.2.1, q.1.2.2.2⟩)
      clear q
      rintro t H n q
      apply eY 2; simp [q]
      refine gn (fun t H n => Q9_4 a0 a1 b1 t H n ∧ t 19 = .sc (.bool ((a1.Num != 0) && (a1.Kind != 2)))) (by simp [q]) fun t H n q => ?_
      exact l0 (hJ1 _ _ _ ⟨q.1.1, q.1.2.1, q.2.trans (congrArg (fun q => AV.sc (.bool q)) (by rw [hb1]; rfl)), q.1.2.2.1, q.1.2.2.2⟩)
  clear q
  rintro t H n q
  apply eY 1; simp [q]
  refine cd ((decide (a0 < 1)) || ((a1.Num != 0) && (a1.Kind != 2))) (by simp [q]) (fun hb2 => ?_) (fun hb2 => ?_)
  ·have h := cT hb2 h
   apply eY 5; simp [q]
   obtain rfl := sj h
   exact (hF hr (by simp [q]) rfl).1
  ·have h := cF hb2 h
   apply eY 25; simp [q, ld_39_3_9, ld_39_0_3]
   obtain ⟨K3, hK3, h⟩ := jnd h
   refine Stk.jn (fun t H n => ∃ v3 : Int, ∃ v4 : Int, ∃ v5 : Bool, K3 v3 v4 v5 = some r ∧ t 0 = .sc (.int .i64 a0) ∧ t 3 = .own b1 0 ∧ t 5 = .sc (.int .i64 v3) ∧ t 6 = .sc (.int .i64 v4) ∧ t 7 = .sc (.bool v5) ∧ H b1 = some (.cells (c39 a1) 39) ∧ b1 < n) trivial (fun J3 hJ3 => ?_) ?_
   · skip
     refine cd (a1.Kind == 0) (by simp [q, ld_39_3_9, ld_39_0_3]) (fun hb6 => ?_) (fun hb6 => ?_)
     ·have h := cT hb6 h
      apply eY 1; simp [q, ld_39_3_9, ld_39_0_3]
      exact l0 (hJ3 _ _ _ ⟨0, 0, (a1.Name.toList == (⟨#[]⟩ : ByteArray).toList), h, by simp [q, ld_39_3_9, ld_39_0_3]⟩)
     ·have h := cF hb6 h
      apply eY 5; simp [q, ld_39_3_9, ld_39_0_3]
      refine cd (a1.Kind == 1) (by simp [q, ld_39_3_9, ld_39_0_3]) (fun hb7 => ?_) (fun hb7 => ?_)
      ·have h := cT hb7 h
       obtain ⟨x8, hx8, h⟩ := bnd h
       apply eY 3; simp [q, ld_39_3_9, ld_39_0_3]
       refine cw (ok_ast_small F _ _ hx8) (by simp [q, ld_39_3_9, ld_39_0_3]) rfl rfl (by simp [q, ld_39_3_9, ld_39_0_3]) (.cons (.free (rfl)) (.nil)) rfl ?_
       rintro _ rfl
       apply eY 2; simp [q, ld_39_3_9, ld_39_0_3]
       exact l0 (hJ3 _ _ _ ⟨0, 0, x8, h, by simp [q, ld_39_3_9, ld_39_0_3]⟩)
      ·have h := cF hb7 h
       apply eY 5; simp [q, ld_39_3_9, ld_39_0_3]
       refine cd (a1.Kind == 2) (by simp [q, ld_39_3_9, ld_39_0_3]) (fun hb9 => ?_) (fun hb9 => ?_)
       ·have h := cT hb9 h
        apply eY 3; simp [q, ld_39_3_9, ld_39_0_3]
        refine gn (fun t H n => Q9_4 a0 a1 b1 t H n ∧ t 5 = .sc (.int .i64 0) ∧ t 6 = .sc (.int .i64 0) ∧ t 35 = .sc (.bool (a1.Name.toList == (⟨#[]⟩ : ByteArray).toList))) (by simp [q, ld_39_3_9, ld_39_0_3]) fun t H n q => ?_
        obtain ⟨K4, hK4, h⟩ := jnd h
        refine Stk.jo 4 (fun t H n => ∃ v10 : Bool, K4 v10 = some r ∧ t 0 = .sc (.int .i64 a0) ∧ t 3 = .own b1 0 ∧ t 5 = .sc (.int .i64 0) ∧ t 6 = .sc (.int .i64 0) ∧ t 39 = .sc (.bool v10) ∧ H b1 = some (.cells (c39 a1) 39) ∧ b1 < n) (fun J4 hJ4 => ?_) ?_
        · rcases Bool.eq_false_or_eq_true (a1.Name.toList == (⟨#[]⟩ : ByteArray).toList) with hb4 | hb4
          · obtain ⟨⟨f0, f3, b_b1, l_b1⟩, f5, f6, f35⟩ := q
            rw [hb4] at f35
            replace h := cT hb4 h
            obtain ⟨x11, hx11, h⟩ := bnd h
            apply eY 2; simp [f0, f3, f5, f6, f35, b_b1, ld_39_4_2]
            refine cw (ok_ast_number F _ _ hx11) (by simp [f0, f3, f5, f6, f35, b_b1, ld_39_4_2]) rfl rfl (by simp [f0, f3, f5, f6, f35, b_b1, ld_39_4_2]) (.cons (.free (rfl)) (.nil)) rfl ?_
            rintro _ rfl
            apply eY 2; simp [f0, f3, f5, f6, f35, b_b1, ld_39_4_2]
            exact l0 (hJ4 _ _ _ ⟨x11, h, by and_intros <;> first | assumption | simp [f0, f3, f5, f6, f35, b_b1, ld_39_4_2]⟩)
          · obtain ⟨⟨f0, f3, b_b1, l_b1⟩, f5, f6, f35⟩ := q
            rw [hb4] at f35
            replace h := cF hb4 h
            apply eY 5; simp [f0, f3, f5, f6, f35, b_b1]
            exact l0 (hJ4 _ _ _ ⟨false, h, by and_intros <;> first | assumption | simp [f0, f3, f5, f6, f35, b_b1]⟩)
        clear q h
        rintro t H n ⟨v10, h, q⟩
        subst hK4
        apply eY 2; simp [q]
        exact l0 (hJ3 _ _ _ ⟨0, 0, v10, h, by simp [q]⟩)
       ·have h := cF hb9 h
        apply eY 5; simp [q, ld_39_3_9, ld_39_0_3]
        refine cd (a1.Kind == 3) (by simp [q, ld_39_3_9, ld_39_0_3]) (fun hb12 => ?_) (fun hb12 => ?_)
        ·have h := cT hb12 h
         obtain ⟨x13, hx13, h⟩ := bnd h
         apply eY 3; simp [q, ld_39_3_9, ld_39_0_3]
         refine cw (ok_ast_great F _ _ hx13) (by simp [q, ld_39_3_9, ld_39_0_3]) rfl rfl (by simp [q, ld_39_3_9, ld_39_0_3]) (.cons (.free (rfl)) (.nil)) rfl ?_
         rintro _ rfl
         apply eY 3; simp [q, ld_39_3_9, ld_39_0_3]
         exact l0 (hJ3 _ _ _ ⟨0, 6, x13, h, by simp [q, ld_39_3_9, ld_39_0_3]⟩)
        ·have h := cF hb12 h
         apply eY 5; simp [q, ld_39_3_9, ld_39_0_3]
         refine cd (a1.Kind == 4) (by simp [q, ld_39_3_9, ld_39_0_3]) (fun hb14 => ?_) (fun hb14 => ?_)
         ·have h := cT hb14 h
          apply eY 4; simp [q, ld_39_3_9, ld_39_0_3]
          exact l0 (hJ3 _ _ _ ⟨2, 6, (a1.Name.toList == (⟨#[]⟩ : ByteArray).toList), h, by simp [q, ld_39_3_9, ld_39_0_3]⟩)
         ·have h := cF hb14 h
          apply eY 5; simp [q, ld_39_3_9, ld_39_0_3]
          obtain rfl := sj h
          exact (hF hr (by simp [q, ld_39_3_9, ld_39_0_3]) rfl).1
   clear q h
   rintro t H n ⟨v3, v4, v5, h, q⟩
   subst hK3
   apply eY 5; simp [q]
   refine gn (fun t H n => Q9_4 a0 a1 b1 t H n ∧ t 5 = .sc (.int .i64 v3) ∧ t 6 = .sc (.int .i64 v4) ∧ t 48 = .sc (.bool v5)) (by simp [q]) fun t H n q => ?_
   obtain ⟨K5, hK5, h⟩ := jnd h
   refine Stk.jo 9 (fun t H n => ∃ v15 : Bool, K5 v15 = some r ∧ t 57 = .sc (.bool v15)) (fun J5 hJ5 => ?_) ?_
   · rcases Bool.eq_false_or_eq_true v5 with hb5 | hb5
     · obtain ⟨⟨f0, f3, b_b1, l_b1⟩, f5, f6, f48⟩ := q
       rw [hb5] at f48
       replace h := cT hb5 h
       obtain ⟨x16, hx16, h⟩ := bnd h
       apply eY 7; simp [f0, f3, f5, f6, f48, b_b1, ld_39_5_37]
       refine cw (ok_aev_APat F _ _ _ _ 49 [.sc (.int .i64 (IntKind.i64.wrap (a0 - 1)))] [] (by and_intros <;> first | assumption | simp [freeL, free]) (fun y0 r h => hρ49 _ y0 r h) _ hx16) (by simp [f0, f3, f5, f6, f48, b_b1, ld_39_5_37]) rfl rfl (by simp [f0, f3, f5, f6, f48, b_b1, ld_39_5_37]) (.cons (.free (freeL_encs fr39 _)) (.cons (.free (rfl)) (.cons (.free (rfl)) (.cons (.fn (.free (by simp [freeL, free])) (.nil)) (.nil))))) rfl ?_
       rintro _ rfl
       apply eY 2; simp [f0, f3, f5, f6, f48, b_b1, ld_39_5_37]
       exact l0 (hJ5 _ _ _ ⟨x16, h, by simp [f0, f3, f5, f6, f48, b_b1, ld_39_5_37]⟩)
     · obtain ⟨⟨f0, f3, b_b1, l_b1⟩, f5, f6, f48⟩ := q
       rw [hb5] at f48
       replace h := cF hb5 h
       apply eY 10; simp [f0, f3, f5, f6, f48, b_b1]
       exact l0 (hJ5 _ _ _ ⟨false, h, by simp [f0, f3, f5, f6, f48, b_b1]⟩)
   clear q h
   rintro t H n ⟨v15, h, q⟩
   subst hK5
   apply eY 3; simp [q]
   obtain rfl := sj h
   exact (hF hr (by simp [q]) rfl).1
theorem okG_ad_fitPat : ∀ F : Nat, (∀ (a0 : Int) (a1 : APat) (r : Bool), ad_fitPat F a0 a1 = some r → RunF Tryz.prog T.T 49 [.sc (.int .i64 a0), .agg (c39 a1)] (.sc (.bool r)))
  | 0 => (fun a0 a1 r h => by rw [ad_fitPat] at h; cases h)
  | F + 1 => (fun a0 a1 r h => okB_ad_fitPat F (ad_fitPat F) (okG_ad_fitPat F) a0 a1 r (by rw [ad_fitPat] at h; exact h))
theorem ok_ad_fitPat (F : Nat) (a0 : Int) (a1 : APat) (r : Bool) (h : ad_fitPat F a0 a1 = some r) : RunF Tryz.prog T.T 49 [.sc (.int .i64 a0), .agg (c39 a1)] (.sc (.bool r)) := (okG_ad_fitPat F) a0 a1 r h
@[simp] abbrev Q9_5 (a0 : Int) (a1 : AExpr) (b1 : Nat) (b3 : Nat) (t : Nat → AV) (H : Mem) (n : Nat) : Prop := t 0 = .sc (.int .i64 a0) ∧ t 3 = .own b1 0 ∧ t 5 = .own b3 0 ∧ H b1 = some (.cells (c33 a1) 33) ∧ b1 < n ∧ b3 < n ∧ b1 ≠ b3
theorem okB_ad_fitExpr (F : Nat) (ρ47 : Int → AExpr → Option Bool) (ρ122 : Int → AArm → Option Bool) (hρ47 : ∀ a0 a1 r, ρ47 a0 a1 = some r → RunF Tryz.prog T.T 47 [.sc (.int .i64 a0), .agg (c33 a1)] (.sc (.bool r))) (hρ122 : ∀ a0 a1 r, ρ122 a0 a1 = some r → RunF Tryz.prog T.T 122 [.sc (.int .i64 a0), .agg (c68 a1)] (.sc (.bool r))) (a0 : Int) (a1 : AExpr) (r : Bool) (h : ad_fitExpr_B F ρ47 ρ122 a0 a1 = some r) : RunF Tryz.prog T.T 47 [.sc (.int .i64 a0), .agg (c33 a1)] (.sc (.bool r)) := by
  rw [ad_fitExpr_B] at h
  refine RunF.z Tryz.func47 rfl rfl rfl rfl rfl (fun C hr => ?_)
  refine gn (fun t H n => t 0 = .sc (.int .i64 a0) ∧ t 1 = .agg (c33 a1)) ⟨by simp, by simp⟩ fun t H n q => ?_
  apply eY 2; simp [q]
  refine gn (fun t H n => t 0 = .sc (.int .i64 a0) ∧ t 1 = .agg (c33 a1)) (by simp [q]) fun t H n q => ?_
  refine Stk.om (mop_box T.t33 (cs := c33 a1) (by show partOk (t 1) = true; rw [q.2]; rfl) (by show cellsOf (t 1) = _; rw [q.2]; rfl)) (by simp [q]) rfl (fun t' ht' => ?_)
  refine gn (fun t H n => ∃ b1, t 0 = .sc (.int .i64 a0) ∧ t 3 = .own b1 0 ∧ H b1 = some (.cells (c33 a1) 33) ∧ b1 < n) ⟨n, j2 (by simp [ht', q]) ⟨upd_same _ _ _, Nat.lt_succ_self _⟩⟩ fun t H n ⟨b1, q⟩ => ?_
  obtain ⟨x2, hx2, h⟩ := bnd h
  apply eY 5; simp [q, ld_33_0_33]
  refine cw (ok_ast_of F _ _ hx2) (by simp [q, ld_33_0_33]) rfl rfl (by simp [q, ld_33_0_33]) (.cons (.free (fr33 _)) (.nil)) (by simp [free, freeL, fr153]) ?_
  rintro _ rfl
  apply eY 3; simp [q, ld_33_0_33]
  refine Stk.om (mop_alloc T.t153 (cs := c153 (ast_shape.mk false false false 0 0 false)) rfl) (by simp [q, ld_33_0_33]) rfl (fun t' ht' => ?_)
  refine gn (fun t H n => ∃ b3, t 0 = .sc (.int .i64 a0) ∧ t 3 = .own b1 0 ∧ t 5 = .own b3 0 ∧ t 10 = .agg (c153 x2.1) ∧ t 11 = .sc (.bool x2.2) ∧ H b1 = some (.cells (c33 a1) 33) ∧ b1 < n ∧ H b3 = some (.cells (c153 (ast_shape.mk false false false 0 0 false)) 153) ∧ b3 < n ∧ b1 ≠ b3) ⟨n, j5 (by simp [ht', q, ld_33_0_33]) ⟨(upd_ne _ _ (Nat.ne_of_lt q.2.2.2)).trans q.2.2.1, Nat.lt_succ_of_lt q.2.2.2, upd_same _ _ _, Nat.lt_succ_self _, Nat.ne_of_lt q.2.2.2⟩⟩ fun t H n ⟨b3, q⟩ => ?_
  refine Stk.om (mop_store (z := 6) rfl q.2.2.1 q.2.2.2.2.2.2.2.1 q.2.2.2.1 (len153 _) (by rw [len153]; decide) (ok153 _) (st_153_0_153 _ _)) (by simp [q]) rfl (fun t' ht' => ?_)
  refine gn (fun t H n => Q9_5 a0 a1 b1 b3 t H n ∧ t 11 = .sc (.bool x2.2) ∧ H b3 = some (.cells (c153 x2.1) 153)) ⟨⟨by simp [ht', q], by simp [ht', q], by simp [ht', q], (upd_ne _ _ q.2.2.2.2.2.2.2.2.2).trans q.2.2.2.2.2.1, q.2.2.2.2.2.2.1, q.2.2.2.2.2.2.2.2.1, q.2.2.2.2.2.2.2.2.2⟩, by simp [ht', q], upd_same _ _ _⟩ fun t H n q => ?_
  apply eY 8; simp [q]
  refine Stk.gd 3 14 17 (fun z => .sc (.bool (z || (!x2.2)))) (w := decide (a0 < 1)) (by simp [q]) (by simp [q]) (by simp [q]) ?_; simp [q]
  apply eY 1; simp [q]
  refine gn (fun t H n => Q9_5 a0 a1 b1 b3 t H n ∧ t 18 = .sc (.bool ((decide (a0 < 1)) || (!x2.2))) ∧ H b3 = some (.cells (c153 x2.1) 153)) (by simp [q]) fun t H n q => ?_
  refine Stk.jo 9 (fun t H n => t 0 = .sc (.int .i64 a0) ∧ t 3 = .own b1 0 ∧ t 5 = .own b3 0 ∧ t 27 = .sc (.bool (((decide (a0 < 1)) || (!x2.2)) || ((!x2.1.named) && (!(a1.Name.toList == (⟨#[]⟩ : ByteArray).toList))))) ∧ H b1 = some (.cells (c33 a1) 33) ∧ b1 < n ∧ H b3 = some (.cells (c153 x2.1) 153) ∧ b3 < n ∧ b1 ≠ b3) (fun J1 hJ1 => ?_) ?_
  · rcases Bool.eq_false_or_eq_true ((decide (a0 < 1)) || (!x2.2)) with hb1 | hb1
    · obtain ⟨⟨f0, f3, f5, b_b1, l_b1, l_b3, d_b1_b3⟩, f18, b_b3⟩ := q
      rw [hb1] at f18
      apply eY 10; simp [f0, f3, f5, f18, b_b1, b_b3]
      refine gn (fun t H n => Q9_5 a0 a1 b1 b3 t H n ∧ t 27 = .sc (.bool true) ∧ H b3 = some (.cells (c153 x2.1) 153)) (by simp [f0, f3, f5, f18, b_b1, b_b3, l_b1, l_b3, d_b1_b3]) fun t H n q => ?_
      exact l0 (hJ1 _ _ _ ⟨q.1.1, q.1.2.1, q.1.2.2.1, q.2.1.trans (congrArg (fun q => AV.sc (.bool q)) (by rw [hb1]; rfl)), q.1.2.2.2.1, q.1.2.2.2.2.1, q.2.2, q.1.2.2.2.2.2.1, q.1.2.2.2.2.2.2⟩)
    · obtain ⟨⟨f0, f3, f5, b_b1, l_b1, l_b3, d_b1_b3⟩, f18, b_b3⟩ := q
      rw [hb1] at f18
      apply eY 4; simp [f0, f3, f5, f18, b_b1, b_b3, ld_153_0_4]
      refine gn (fun t H n => Q9_5 a0 a1 b1 b3 t H n ∧ t 18 = .sc (.bool false) ∧ t 22 = .sc (.bool (!x2.1.named)) ∧ H b3 = some (.cells (c153 x2.1) 153)) (by simp [f0, f3, f5, f18, b_b1, b_b3, ld_153_0_4, l_b1, l_b3, d_b1_b3]) fun t H n q => ?_
      refine Stk.jo 4 (fun t H n => t 0 = .sc (.int .i64 a0) ∧ t 3 = .own b1 0 ∧ t 5 = .own b3 0 ∧ t 18 = .sc (.bool false) ∧ t 26 = .sc (.bool ((!x2.1.named) && (!(a1.Name.toList == (⟨#[]⟩ : ByteArray).toList)))) ∧ H b1 = some (.cells (c33 a1) 33) ∧ b1 < n ∧ H b3 = some (.cells (c153 x2.1) 153) ∧ b3 < n ∧ b1 ≠ b3) (fun J2 hJ2 => ?_) ?_
      · rcases Bool.eq_false_or_eq_true (!x2.1.named) with hb2 | hb2
        · obtain ⟨⟨f0, f3, f5, b_b1, l_b1, l_b3, d_b1_b3⟩, f18, f22, b_b3⟩ := q
          rw [hb2] at f22
          apply eY 5; simp [f0, f3, f5, f18, f22, b_b1, b_b3, ld_33_5_9]
          refine gn (fun t H n => Q9_5 a0 a1 b1 b3 t H n ∧ t 18 = .sc (.bool false) ∧ t 26 = .sc (.bool (!(a1.Name.toList == (⟨#[]⟩ : ByteArray).toList))) ∧ H b3 = some (.cells (c153 x2.1) 153)) (by simp [f0, f3, f5, f18, f22, b_b1, b_b3, ld_33_5_9, l_b1, l_b3, d_b1_b3]) fun t H n q => ?_
          exact l0 (hJ2 _ _ _ ⟨q.1.1, q.1.2.1, q.1.2.2.1, q.2.1, q.2.2.1.trans (congrArg (fun q => AV.sc (.bool q)) (by rw [hb2]; rfl)), q.1.2.2.2.1, q.1.2.2.2.2.1, q.2.2.2, q.1.2.2.2.2.2.1, q.1.2.2.2.2.2.2⟩)
        · obtain ⟨⟨f0, f3, f5, b_b1, l_b1, l_b3, d_b1_b3⟩, f18, f22, b_b3⟩ := q
          rw [hb2] at f22
          apply eY 5; simp [f0, f3, f5, f18, f22, b_b1, b_b3]
          refine gn (fun t H n => Q9_5 a0 a1 b1 b3 t H n ∧ t 18 = .sc (.bool false) ∧ t 26 = .sc (.bool false) ∧ H b3 = some (.cells (c153 x2.1) 153)) (by simp [f0, f3, f5, f18, f22, b_b1, b_b3, l_b1, l_b3, d_b1_b3]) fun t H n q => ?_
          exact l0 (hJ2 _ _ _ ⟨q.1.1, q.1.2.1, q.1.2.2.1, q.2.1, q.2.2.1.trans (congrArg (fun q => AV.sc (.bool q)) (by rw [hb2]; rfl)), q.1.2.2.2.1, q.1.2.2.2.2.1, q.2.2.2, q.1.2.2.2.2.2.1, q.1.2.2.2.2.2.2⟩)
      clear q
      rintro t H n q
      apply eY 2; simp [q]
      refine gn (fun t H n => Q9_5 a0 a1 b1 b3 t H n ∧ t 27 = .sc (.bool ((!x2.1.named) && (!(a1.Name.toList == (⟨#[]⟩ : ByteArray).toList)))) ∧ H b3 = some (.cells (c153 x2.1) 153)) (by simp [q]) fun t H n q => ?_
      exact l0 (hJ1 _ _ _ ⟨q.1.1, q.1.2.1, q.1.2.2.1, q.2.1.trans (congrArg (fun q => AV.sc (.bool q)) (by rw [hb1]; rfl)), q.1.2.2.2.1, q.1.2.2.2.2.1, q.2.2, q.1.2.2.2.2.2.1, q.1.2.2.2.2.2.2⟩)
  clear q
  rintro t H n q
  apply eY 1; simp [q]
  refine gn (fun t H n => Q9_5 a0 a1 b1 b3 t H n ∧ t 28 = .sc (.bool (((decide (a0 < 1)) || (!x2.2)) || ((!x2.1.named) && (!(a1.Name.toList == (⟨#[]⟩ : ByteArray).toList))))) ∧ H b3 = some (.cells (c153 x2.1) 153)) (by simp [q]) fun t H n q => ?_
  refine Stk.jo 9 (fun t H n => t 0 = .sc (.int .i64 a0) ∧ t 3 = .own b1 0 ∧ t 5 = .own b3 0 ∧ t 37 = .sc (.bool ((((decide (a0 < 1)) || (!x2.2)) || ((!x2.1.named) && (!(a1.Name.toList == (⟨#[]⟩ : ByteArray).toList)))) || ((!x2.1.numbered) && (a1.Num != 0)))) ∧ H b1 = some (.cells (c33 a1) 33) ∧ b1 < n ∧ H b3 = some (.cells (c153 x2.1) 153) ∧ b3 < n ∧ b1 ≠ b3) (fun J3 hJ3 => ?_) ?_
  · rcases Bool.eq_false_or_eq_true (((decide (a0 < 1)) || (!x2.2)) || ((!x2.1.named) && (!(a1.Name.toList == (⟨#[]⟩ : ByteArray).toList)))) with hb3 | hb3
    · obtain ⟨⟨f0, f3, f5, b_b1, l_b1, l_b3, d_b1_b3⟩, f28, b_b3⟩ := q
      rw [hb3] at f28
      apply eY 10; simp [f0, f3, f5, f28, b_b1, b_b3]
      refine gn (fun t H n => Q9_5 a0 a1 b1 b3 t H n ∧ t 37 = .sc (.bool true) ∧ H b3 = some (.cells (c153 x2.1) 153)) (by simp [f0, f3, f5, f28, b_b1, b_b3, l_b1, l_b3, d_b1_b3]) fun t H n q => ?_
      exact l0 (hJ3 _ _ _ ⟨q.1.1, q.1.2.1, q.1.2.2.1, q.2.1.trans (congrArg (fun q => AV.sc (.bool q)) (by rw [hb3]; rfl)), q.1.2.2.2.1, q.1.2.2.2.2.1, q.2.2, q.1.2.2.2.2.2.1, q.1.2.2.2.2.2.2⟩)
    · obtain ⟨⟨f0, f3, f5, b_b1, l_b1, l_b3, d_b1_b3⟩, f28, b_b3⟩ := q
      rw [hb3] at f28
      apply eY 4; simp [f0, f3, f5, f28, b_b1, b_b3, ld_153_1_4]
      refine gn (fun t H n => Q9_5 a0 a1 b1 b3 t H n ∧ t 28 = .sc (.bool false) ∧ t 32 = .sc (.bool (!x2.1.numbered)) ∧ H b3 = some (.cells (c153 x2.1) 153)) (by simp [f0, f3, f5, f28, b_b1, b_b3, ld_153_1_4, l_b1, l_b3, d_b1_b3]) fun t H n q => ?_
      refine Stk.jo 4 (fun t H n => t 0 = .sc (.int .i64 a0) ∧ t 3 = .own b1 0 ∧ t 5 = .own b3 0 ∧ t 28 = .sc (.bool false) ∧ t 36 = .sc (.bool ((!x2.1.numbered) && (a1.Num != 0))) ∧ H b1 = some (.cells (c33 a1) 33) ∧ b1 < n ∧ H b3 = some (.cells (c153 x2.1) 153) ∧ b3 < n ∧ b1 ≠ b3) (fun J4 hJ4 => ?_) ?_
      · rcases Bool.eq_false_or_eq_true (!x2.1.numbered) with hb4 | hb4
        · obtain ⟨⟨f0, f3, f5, b_b1, l_b1, l_b3, d_b1_b3⟩, f28, f32, b_b3⟩ := q
          rw [hb4] at f32
          apply eY 5; simp [f0, f3, f5, f28, f32, b_b1, b_b3, ld_33_3_2]
          refine gn (fun t H n => Q9_5 a0 a1 b1 b3 t H n ∧ t 28 = .sc (.bool false) ∧ t 36 = .sc (.bool (a1.Num != 0)) ∧ H b3 = some (.cells (c153 x2.1) 153)) (by simp [f0, f3, f5, f28, f32, b_b1, b_b3, ld_33_3_2, l_b1, l_b3, d_b1_b3]) fun t H n q => ?_
          exact l0 (hJ4 _ _ _ ⟨q.1.1, q.1.2.1, q.1.2.2.1, q.2.1, q.2.2.1.trans (congrArg (fun q => AV.sc (.bool q)) (by rw [hb4]; rfl)), q.1.2.2.2.1, q.1.2.2.2.2.1, q.2.2.2, q.1.2.2.2.2.2.1, q.1.2.2.2.2.2.2⟩)
        · obtain ⟨⟨f0, f3, f5, b_b1, l_b1, l_b3, d_b1_b3⟩, f28, f32, b_b3⟩ := q
          rw [hb4] at f32
          apply eY 5; simp [f0, f3, f5, f28, f32, b_b1, b_b3]
          refine gn (fun t H n => Q9_5 a0 a1 b1 b3 t H n ∧ t 28 = .sc (.bool false) ∧ t 36 = .sc (.bool false) ∧ H b3 = some (.cells (c153 x2.1) 153)) (by simp [f0, f3, f5, f28, f32, b_b1, b_b3, l_b1, l_b3, d_b1_b3]) fun t H n q => ?_
          exact l0 (hJ4 _ _ _ ⟨q.1.1, q.1.2.1, q.1.2.2.1, q.2.1, q.2.2.1.trans (congrArg (fun q => AV.sc (.bool q)) (by rw [hb4]; rfl)), q.1.2.2.2.1, q.1.2.2.2.2.1, q.2.2.2, q.1.2.2.2.2.2.1, q.1.2.2.2.2.2.2⟩)
      clear q
      rintro t H n q
      apply eY 2; simp [q]
      refine gn (fun t H n => Q9_5 a0 a1 b1 b3 t H n ∧ t 37 = .sc (.bool ((!x2.1.numbered) && (a1.Num != 0))) ∧ H b3 = some (.cells (c153 x2.1) 153)) (by simp [q]) fun t H n q => ?_
      exact l0 (hJ3 _ _ _ ⟨q.1.1, q.1.2.1, q.1.2.2.1, q.2.1.trans (congrArg (fun q => AV.sc (.bool q)) (by rw [hb3]; rfl)), q.1.2.2.2.1, q.1.2.2.2.2.1, q.2.2, q.1.2.2.2.2.2.1, q.1.2.2.2.2.2.2⟩)
  clear q
  rintro t H n q
  apply eY 1; simp [q]
  refine gn (fun t H n => Q9_5 a0 a1 b1 b3 t H n ∧ t 38 = .sc (.bool ((((decide (a0 < 1)) || (!x2.2)) || ((!x2.1.named) && (!(a1.Name.toList == (⟨#[]⟩ : ByteArray).toList)))) || ((!x2.1.numbered) && (a1.Num != 0)))) ∧ H b3 = some (.cells (c153 x2.1) 153)) (by simp [q]) fun t H n q => ?_
  refine Stk.jo 10 (fun t H n => t 0 = .sc (.int .i64 a0) ∧ t 3 = .own b1 0 ∧ t 5 = .own b3 0 ∧ t 48 = .sc (.bool (((((decide (a0 < 1)) || (!x2.2)) || ((!x2.1.named) && (!(a1.Name.toList == (⟨#[]⟩ : ByteArray).toList)))) || ((!x2.1.numbered) && (a1.Num != 0))) || ((!x2.1.bytes) && (decide (0 < (a1.Bytes.length : Int)))))) ∧ H b1 = some (.cells (c33 a1) 33) ∧ b1 < n ∧ H b3 = some (.cells (c153 x2.1) 153) ∧ b3 < n ∧ b1 ≠ b3) (fun J5 hJ5 => ?_) ?_
  · rcases Bool.eq_false_or_eq_true ((((decide (a0 < 1)) || (!x2.2)) || ((!x2.1.named) && (!(a1.Name.toList == (⟨#[]⟩ : ByteArray).toList)))) || ((!x2.1.numbered) && (a1.Num != 0))) with hb5 | hb5
    · obtain ⟨⟨f0, f3, f5, b_b1, l_b1, l_b3, d_b1_b3⟩, f38, b_b3⟩ := q
      rw [hb5] at f38
      apply eY 11; simp [f0, f3, f5, f38, b_b1, b_b3]
      refine gn (fun t H n => Q9_5 a0 a1 b1 b3 t H n ∧ t 48 = .sc (.bool true) ∧ H b3 = some (.cells (c153 x2.1) 153)) (by simp [f0, f3, f5, f38, b_b1, b_b3, l_b1, l_b3, d_b1_b3]) fun t H n q => ?_
      exact l0 (hJ5 _ _ _ ⟨q.1.1, q.1.2.1, q.1.2.2.1, q.2.1.trans (congrArg (fun q => AV.sc (.bool q)) (by rw [hb5]; rfl)), q.1.2.2.2.1, q.1.2.2.2.2.1, q.2.2, q.1.2.2.2.2.2.1, q.1.2.2.2.2.2.2⟩)
    · obtain ⟨⟨f0, f3, f5, b_b1, l_b1, l_b3, d_b1_b3⟩, f38, b_b3⟩ := q
      rw [hb5] at f38
      apply eY 4; simp [f0, f3, f5, f38, b_b1, b_b3, ld_153_2_4]
      refine gn (fun t H n => Q9_5 a0 a1 b1 b3 t H n ∧ t 38 = .sc (.bool false) ∧ t 42 = .sc (.bool (!x2.1.bytes)) ∧ H b3 = some (.cells (c153 x2.1) 153)) (by simp [f0, f3, f5, f38, b_b1, b_b3, ld_153_2_4, l_b1, l_b3, d_b1_b3]) fun t H n q => ?_
      refine Stk.jo 5 (fun t H n => t 0 = .sc (.int .i64 a0) ∧ t 3 = .own b1 0 ∧ t 5 = .own b3 0 ∧ t 38 = .sc (.bool false) ∧ t 47 = .sc (.bool ((!x2.1.bytes) && (decide (0 < (a1.Bytes.length : Int))))) ∧ H b1 = some (.cells (c33 a1) 33) ∧ b1 < n ∧ H b3 = some (.cells (c153 x2.1) 153) ∧ b3 < n ∧ b1 ≠ b3) (fun J6 hJ6 => ?_) ?_
      · rcases Bool.eq_false_or_eq_true (!x2.1.bytes) with hb6 | hb6
        · obtain ⟨⟨f0, f3, f5, b_b1, l_b1, l_b3, d_b1_b3⟩, f38, f42, b_b3⟩ := q
          rw [hb6] at f42
          apply eY 6; simp [f0, f3, f5, f38, f42, b_b1, b_b3, ld_33_4_29]
          refine gn (fun t H n => Q9_5 a0 a1 b1 b3 t H n ∧ t 38 = .sc (.bool false) ∧ t 47 = .sc (.bool (decide (0 < (a1.Bytes.length : Int)))) ∧ H b3 = some (.cells (c153 x2.1) 153)) (by simp [f0, f3, f5, f38, f42, b_b1, b_b3, ld_33_4_29, l_b1, l_b3, d_b1_b3]) fun t H n q => ?_
          exact l0 (hJ6 _ _ _ ⟨q.1.1, q.1.2.1, q.1.2.2.1, q.2.1, q.2.2.1.trans (congrArg (fun q => AV.sc (.bool q)) (by rw [hb6]; rfl)), q.1.2.2.2.1, q.1.2.2.2.2.1, q.2.2.2, q.1.2.2.2.2.2.1, q.1.2.2.2.2.2.2⟩)
        · obtain ⟨⟨f0, f3, f5, b_b1, l_b1, l_b3, d_b1_b3⟩, f38, f42, b_b3⟩ := q
          rw [hb6] at f42
          apply eY 6; simp [f0, f3, f5, f38, f42, b_b1, b_b3]
          refine gn (fun t H n => Q9_5 a0 a1 b1 b3 t H n ∧ t 38 = .sc (.bool false) ∧ t 47 = .sc (.bool false) ∧ H b3 = some (.cells (c153 x2.1) 153)) (by simp [f0, f3, f5, f38, f42, b_b1, b_b3, l_b1, l_b3, d_b1_b3]) fun t H n q => ?_
          exact l0 (hJ6 _ _ _ ⟨q.1.1, q.1.2.1, q.1.2.2.1, q.2.1, q.2.2.1.trans (congrArg (fun q => AV.sc (.bool q)) (by rw [hb6]; rfl)), q.1.2.2.2.1, q.1.2.2.2.2.1, q.2.2.2, q.1.2.2.2.2.2.1, q.1.2.2.2.2.2.2⟩)
      clear q
      rintro t H n q
      apply eY 2; simp [q]
      refine gn (fun t H n => Q9_5 a0 a1 b1 b3 t H n ∧ t 48 = .sc (.bool ((!x2.1.bytes) && (decide (0 < (a1.Bytes.length : Int))))) ∧ H b3 = some (.cells (c153 x2.1) 153)) (by simp [q]) fun t H n q => ?_
      exact l0 (hJ5 _ _ _ ⟨q.1.1, q.1.2.1, q.1.2.2.1, q.2.1.trans (congrArg (fun q => AV.sc (.bool q)) (by rw [hb5]; rfl)), q.1.2.2.2.1, q.1.2.2.2.2.1, q.2.2, q.1.2.2.2.2.2.1, q.1.2.2.2.2.2.2⟩)
  clear q
  rintro t H n q
  apply eY 1; simp [q]
  refine cd (((((decide (a0 < 1)) || (!x2.2)) || ((!x2.1.named) && (!(a1.Name.toList == (⟨#[]⟩ : ByteArray).toList)))) || ((!x2.1.numbered) && (a1.Num != 0))) || ((!x2.1.bytes) && (decide (0 < (a1.Bytes.length : Int))))) (by simp [q]) (fun hb4 => ?_) (fun hb4 => ?_)
  ·have h := cT hb4 h
   apply eY 5; simp [q]
   obtain rfl := sj h
   exact (hF hr (by simp [q]) rfl).1
  ·have h := cF hb4 h
   apply eY 8; simp [q, ld_153_5_4]
   refine Stk.gd 5 52 57 (fun z => .sc (.bool (z && (decide (0 < (a1.Arms.length : Int)))))) (w := (!x2.1.arms)) (by simp [q, ld_153_5_4]) (by simp [q, ld_153_5_4, ld_33_7_31]) (by simp [q, ld_153_5_4, ld_33_7_31]) ?_; simp [q, ld_153_5_4]
   apply eY 1; simp [q, ld_153_5_4]
   refine gn (fun t H n => Q9_5 a0 a1 b1 b3 t H n ∧ t 58 = .sc (.bool ((!x2.1.arms) && (decide (0 < (a1.Arms.length : Int))))) ∧ H b3 = some (.cells (c153 x2.1) 153)) (by simp [q, ld_153_5_4]) fun t H n q => ?_
   obtain ⟨K7, hK7, h⟩ := jnd h
   refine Stk.jo 12 (fun t H n => ∃ v5 : Bool, K7 v5 = some r ∧ t 0 = .sc (.int .i64 a0) ∧ t 3 = .own b1 0 ∧ t 5 = .own b3 0 ∧ t 70 = .sc (.bool v5) ∧ H b1 = some (.cells (c33 a1) 33) ∧ b1 < n ∧ H b3 = some (.cells (c153 x2.1) 153) ∧ b3 < n ∧ b1 ≠ b3) (fun J7 hJ7 => ?_) ?_
   · rcases Bool.eq_false_or_eq_true ((!x2.1.arms) && (decide (0 < (a1.Arms.length : Int)))) with hb7 | hb7
     · obtain ⟨⟨f0, f3, f5, b_b1, l_b1, l_b3, d_b1_b3⟩, f58, b_b3⟩ := q
       rw [hb7] at f58
       replace h := cT hb7 h
       apply eY 13; simp [f0, f3, f5, f58, b_b1, b_b3]
       exact l0 (hJ7 _ _ _ ⟨true, h, by and_intros <;> first | assumption | simp [f0, f3, f5, f58, b_b1, b_b3]⟩)
     · obtain ⟨⟨f0, f3, f5, b_b1, l_b1, l_b3, d_b1_b3⟩, f58, b_b3⟩ := q
       rw [hb7] at f58
       replace h := cF hb7 h
       apply eY 3; simp [f0, f3, f5, f58, b_b1, b_b3, ld_153_5_4]
       refine gn (fun t H n => Q9_5 a0 a1 b1 b3 t H n ∧ t 58 = .sc (.bool false) ∧ t 61 = .sc (.bool x2.1.arms) ∧ H b3 = some (.cells (c153 x2.1) 153)) (by simp [f0, f3, f5, f58, b_b1, b_b3, ld_153_5_4, l_b1, l_b3, d_b1_b3]) fun t H n q => ?_
       obtain ⟨K8, hK8, h⟩ := jnd h
       refine Stk.jo 8 (fun t H n => ∃ v6 : Bool, K8 v6 = some r ∧ t 0 = .sc (.int .i64 a0) ∧ t 3 = .own b1 0 ∧ t 5 = .own b3 0 ∧ t 58 = .sc (.bool false) ∧ t 69 = .sc (.bool v6) ∧ H b1 = some (.cells (c33 a1) 33) ∧ b1 < n ∧ H b3 = some (.cells (c153 x2.1) 153) ∧ b3 < n ∧ b1 ≠ b3) (fun J8 hJ8 => ?_) ?_
       · rcases Bool.eq_false_or_eq_true x2.1.arms with hb8 | hb8
         · obtain ⟨⟨f0, f3, f5, b_b1, l_b1, l_b3, d_b1_b3⟩, f58, f61, b_b3⟩ := q
           rw [hb8] at f61
           replace h := cT hb8 h
           obtain ⟨x7, hx7, h⟩ := bnd h
           apply eY 5; simp [f0, f3, f5, f58, f61, b_b1, b_b3, ld_33_7_31]
           refine cw (ok_aev_AArm F _ _ _ _ 122 [.sc (.int .i64 (IntKind.i64.wrap (a0 - 1)))] [] (by and_intros <;> first | assumption | simp [freeL, free]) (fun y0 r h => hρ122 _ y0 r h) _ hx7) (by simp [f0, f3, f5, f58, f61, b_b1, b_b3, ld_33_7_31]) rfl rfl (by simp [f0, f3, f5, f58, f61, b_b1, b_b3, ld_33_7_31]) (.cons (.free (freeL_encs fr68 _)) (.cons (.free (rfl)) (.cons (.free (rfl)) (.cons (.fn (.free (by simp [freeL, free])) (.nil)) (.nil))))) rfl ?_
           rintro _ rfl
           apply eY 3; simp [f0, f3, f5, f58, f61, b_b1, b_b3, ld_33_7_31]
           exact l0 (hJ8 _ _ _ ⟨(!x7), h, by and_intros <;> first | assumption | simp [f0, f3, f5, f58, f61, b_b1, b_b3, ld_33_7_31]⟩)
         · obtain ⟨⟨f0, f3, f5, b_b1, l_b1, l_b3, d_b1_b3⟩, f58, f61, b_b3⟩ := q
           rw [hb8] at f61
           replace h := cF hb8 h
           apply eY 9; simp [f0, f3, f5, f58, f61, b_b1, b_b3]
           exact l0 (hJ8 _ _ _ ⟨false, h, by and_intros <;> first | assumption | simp [f0, f3, f5, f58, f61, b_b1, b_b3]⟩)
       clear q h
       rintro t H n ⟨v6, h, q⟩
       subst hK8
       apply eY 2; simp [q]
       exact l0 (hJ7 _ _ _ ⟨v6, h, by simp [q]⟩)
   clear q h
   rintro t H n ⟨v5, h, q⟩
   subst hK7
   apply eY 1; simp [q]
   refine cd v5 (by simp [q]) (fun hb8 => ?_) (fun hb8 => ?_)
   ·have h := cT hb8 h
    apply eY 5; simp [q]
    obtain rfl := sj h
    exact (hF hr (by simp [q]) rfl).1
   ·have h := cF hb8 h
    obtain ⟨x9, hx9, h⟩ := bnd h
    apply eY 12; simp [q, ld_33_6_30, ld_153_3_3, ld_153_4_3]
    refine cw (ok_aev_AExpr F _ _ _ _ 47 [.sc (.int .i64 (IntKind.i64.wrap (a0 - 1)))] [] (by simp [freeL, free]) (fun y0 r h => hρ47 _ y0 r h) _ hx9) (by simp [q, ld_33_6_30, ld_153_3_3, ld_153_4_3]) rfl rfl (by simp [q, ld_33_6_30, ld_153_3_3, ld_153_4_3]) (.cons (.free (freeL_encs fr33 _)) (.cons (.free (rfl)) (.cons (.free (rfl)) (.cons (.fn (.free (by simp [freeL, free])) (.nil)) (.nil))))) rfl ?_
    rintro _ rfl
    apply eY 3; simp [q, ld_33_6_30, ld_153_3_3, ld_153_4_3]
    obtain rfl := sj h
    exact (hF hr (by simp [q, ld_33_6_30, ld_153_3_3, ld_153_4_3]) rfl).1
theorem okB_ad_fitArm (F : Nat) (ρ47 : Int → AExpr → Option Bool) (ρ122 : Int → AArm → Option Bool) (hρ47 : ∀ a0 a1 r, ρ47 a0 a1 = some r → RunF Tryz.prog T.T 47 [.sc (.int .i64 a0), .agg (c33 a1)] (.sc (.bool r))) (hρ122 : ∀ a0 a1 r, ρ122 a0 a1 = some r → RunF Tryz.prog T.T 122 [.sc (.int .i64 a0), .agg (c68 a1)] (.sc (.bool r))) (a0 : Int) (a1 : AArm) (r : Bool) (h : ad_fitArm_B F ρ47 ρ122 a0 a1 = some r) : RunF Tryz.prog T.T 122 [.sc (.int .i64 a0), .agg (c68 a1)] (.sc (.bool r)) := by
  rw [ad_fitArm_B] at h
  refine RunF.z Tryz.func122 rfl rfl rfl rfl rfl (fun C hr => ?_)
  refine gn (fun t H n => t 0 = .sc (.int .i64 a0) ∧ t 1 = .agg (c68 a1)) ⟨by simp, by simp⟩ fun t H n q => ?_
  apply eY 2; simp [q]
  refine gn (fun t H n => t 0 = .sc (.int .i64 a0) ∧ t 1 = .agg (c68 a1)) (by simp [q]) fun t H n q => ?_
  refine Stk.om (mop_box T.t68 (cs := c68 a1) (by show partOk (t 1) = true; rw [q.2]; rfl) (by show cellsOf (t 1) = _; rw [q.2]; rfl)) (by simp [q]) rfl (fun t' ht' => ?_)
  refine gn (fun t H n => ∃ b1, t 0 = .sc (.int .i64 a0) ∧ t 3 = .own b1 0 ∧ H b1 = some (.cells (c68 a1) 68) ∧ b1 < n) ⟨n, j2 (by simp [ht', q]) ⟨upd_same _ _ _, Nat.lt_succ_self _⟩⟩ fun t H n ⟨b1, q⟩ => ?_
  obtain ⟨x2, hx2, h⟩ := bnd h
  apply eY 7; simp [q, ld_68_0_39]
  refine cw (ok_ad_fitPat F _ _ _ hx2) (by simp [q, ld_68_0_39]) rfl rfl (by simp [q, ld_68_0_39]) (.cons (.free (rfl)) (.cons (.free (fr39 _)) (.nil))) rfl ?_
  rintro _ rfl
  apply eY 1; simp [q, ld_68_0_39]
  refine gn (fun t H n => t 0 = .sc (.int .i64 a0) ∧ t 3 = .own b1 0 ∧ t 9 = .sc (.bool x2) ∧ H b1 = some (.cells (c68 a1) 68) ∧ b1 < n) (by simp [q, ld_68_0_39]) fun t H n q => ?_
  obtain ⟨K1, hK1, h⟩ := jnd h
  refine Stk.jo 5 (fun t H n => ∃ v3 : Bool, K1 v3 = some r ∧ t 14 = .sc (.bool v3)) (fun J1 hJ1 => ?_) ?_
  · rcases Bool.eq_false_or_eq_true x2 with hb1 | hb1
    · obtain ⟨f0, f3, f9, b_b1, l_b1⟩ := q
      rw [hb1] at f9
      replace h := cT hb1 h
      obtain ⟨x4, hx4, h⟩ := bnd h
      apply eY 3; simp [f0, f3, f9, b_b1, ld_68_6_33]
      refine cw (hρ47 _ _ _ hx4) (by simp [f0, f3, f9, b_b1, ld_68_6_33]) rfl rfl (by simp [f0, f3, f9, b_b1, ld_68_6_33]) (.cons (.free (rfl)) (.cons (.free (fr33 _)) (.nil))) rfl ?_
      rintro _ rfl
      apply eY 2; simp [f0, f3, f9, b_b1, ld_68_6_33]
      exact l0 (hJ1 _ _ _ ⟨x4, h, by simp [f0, f3, f9, b_b1, ld_68_6_33]⟩)
    · obtain ⟨f0, f3, f9, b_b1, l_b1⟩ := q
      rw [hb1] at f9
      replace h := cF hb1 h
      apply eY 6; simp [f0, f3, f9, b_b1]
      exact l0 (hJ1 _ _ _ ⟨false, h, by simp [f0, f3, f9, b_b1]⟩)
  clear q h
  rintro t H n ⟨v3, h, q⟩
  subst hK1
  apply eY 3; simp [q]
  obtain rfl := sj h
  exact (hF hr (by simp [q]) rfl).1
theorem okG_ad_fitExpr : ∀ F : Nat, (∀ (a0 : Int) (a1 : AExpr) (r : Bool), ad_fitExpr F a0 a1 = some r → RunF Tryz.prog T.T 47 [.sc (.int .i64 a0), .agg (c33 a1)] (.sc (.bool r))) ∧ (∀ (a0 : Int) (a1 : AArm) (r : Bool), ad_fitArm F a0 a1 = some r → RunF Tryz.prog T.T 122 [.sc (.int .i64 a0), .agg (c68 a1)] (.sc (.bool r)))
  | 0 => ⟨(fun a0 a1 r h => by rw [ad_fitExpr] at h; cases h), (fun a0 a1 r h => by rw [ad_fitArm] at h; cases h)⟩
  | F + 1 => ⟨(fun a0 a1 r h => okB_ad_fitExpr F (ad_fitExpr F) (ad_fitArm F) (okG_ad_fitExpr F).1 (okG_ad_fitExpr F).2 a0 a1 r (by rw [ad_fitExpr] at h; exact h)), (fun a0 a1 r h => okB_ad_fitArm F (ad_fitExpr F) (ad_fitArm F) (okG_ad_fitExpr F).1 (okG_ad_fitExpr F).2 a0 a1 r (by rw [ad_fitArm] at h; exact h))⟩
theorem ok_ad_fitExpr (F : Nat) (a0 : Int) (a1 : AExpr) (r : Bool) (h : ad_fitExpr F a0 a1 = some r) : RunF Tryz.prog T.T 47 [.sc (.int .i64 a0), .agg (c33 a1)] (.sc (.bool r)) := (okG_ad_fitExpr F).1 a0 a1 r h
end Go.Proofs.YtappiofmkoelnaaGreatDoor.M
end
