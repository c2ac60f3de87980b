-- Written by xprint (a program of this work) out of the translation; Lean checks it.
import Derived.Test.YtlemgfcopedjhaaPWordx0
namespace Go.Proofs.Ytlemgfcopedjhaa.PWord
open Go.RowKit Go.Proofs.YtlemgfcopedjhaaW.PrintWords Go.Proofs.YtlemgfcopedjhaaW.PrintLast Go.Proofs.YtlemgfcopedjhaaW.PrintMore
attribute [local go_sem] max2_int min2_int max_two min_two max_three min_three max_four min_four   -- for this text's walks alone
set_option linter.unusedVariables false
set_option linter.unusedSimpArgs false

/-! ### word_wrapped: function 52 -/
def word_wrapped.f (a0 : Int) : Option (Int) := some ((wrap64 (a0 * 2)) / 2)
set_option maxHeartbeats 8000000 in
set_option maxRecDepth 100000 in
theorem word_wrapped.calls (a0 : Int) (r : Int) (w : World) (h : word_wrapped.f a0 = some r) :
    Calls Try.prog 52 #[.int .i64 a0] w fun e w' => e = .returned (.int .i64 r) ∧ Drawn0 w w' := by
  have H : (some ((wrap64 (a0 * 2)) / 2)) = some r := h
  clear h
  obtain rfl := Option.some.inj H
  go_enter Try.func52, Try.ntmps52
  go_wp2
  go_ret
  exact ⟨by first | rfl | (simp; done) | (simp [*]; done), by repeat (first | exact Drawn0.refl _ | apply Drawn0.step)⟩

/-! ### word_Wrap: function 15 -/
def word_Wrap.f (a0 : Int) : Option (Int) := (word_wrapped.f a0).bind fun t101 => (some t101)
set_option maxHeartbeats 8000000 in
set_option maxRecDepth 100000 in
theorem word_Wrap.calls (a0 : Int) (r : Int) (w : World) (h : word_Wrap.f a0 = some r) :
    Calls Try.prog 15 #[.int .i64 a0] w fun e w' => e = .returned (.int .i64 r) ∧ Drawn0 w w' := by
  have H : ((word_wrapped.f a0).bind fun t101 => (some t101)) = some r := h
  clear h
  replace H := Option.bind_eq_some_iff.mp H
  obtain ⟨t101, A20, H⟩ := H
  replace H : (some t101) = some r := H
  have A2 := Aside0.mk A20
  clear A20
  obtain rfl := Option.some.inj H
  go_enter Try.func15, Try.ntmps15
  go_wp2_with (first | ((with_reducible refine gate_callee (f := 52) rfl ?_); refine goesL_ (some 4) rfl rfl Try.func52 (by kernel_rfl) rfl #[.int .i64 a0] rfl (by (try simp only [List.map_toArray, List.map_cons, List.map_nil]); first | done | rfl | (simp only [List.length_drop, List.length_take]; rfl)) ?_; (with_reducible refine (word_wrapped.calls a0 t101 _ A2.out).mono ?_); rintro e w' ⟨rfl, ⟨nd, rfl⟩⟩; refine ⟨_, rfl, ?_⟩))
  go_ret
  exact ⟨by first | rfl | (simp; done) | (simp [*]; done), by repeat (first | exact Drawn0.refl _ | apply Drawn0.step)⟩

/-! ### word_number_add: function 47 -/
def word_number_add.f (a0 : Int) (a1 : Int) : Option (Int) := some (wrap64 (a0 + a1))
set_option maxHeartbeats 8000000 in
set_option maxRecDepth 100000 in
theorem word_number_add.calls (a0 : Int) (a1 : Int) (r : Int) (w : World) (h : word_number_add.f a0 a1 = some r) :
    Calls Try.prog 47 #[.int .i64 a0, .int .i64 a1] w fun e w' => e = .returned (.int .i64 r) ∧ Drawn0 w w' := by
  have H : (some (wrap64 (a0 + a1))) = some r := h
  clear h
  obtain rfl := Option.some.inj H
  go_enter Try.func47, Try.ntmps47
  go_wp2
  go_ret
  exact ⟨by first | rfl | (simp; done) | (simp [*]; done), by repeat (first | exact Drawn0.refl _ | apply Drawn0.step)⟩

/-! ### word_number_sub: function 48 -/
def word_number_sub.f (a0 : Int) (a1 : Int) : Option (Int) := some (wrap64 (a0 - a1))
set_option maxHeartbeats 8000000 in
set_option maxRecDepth 100000 in
theorem word_number_sub.calls (a0 : Int) (a1 : Int) (r : Int) (w : World) (h : word_number_sub.f a0 a1 = some r) :
    Calls Try.prog 48 #[.int .i64 a0, .int .i64 a1] w fun e w' => e = .returned (.int .i64 r) ∧ Drawn0 w w' := by
  have H : (some (wrap64 (a0 - a1))) = some r := h
  clear h
  obtain rfl := Option.some.inj H
  go_enter Try.func48, Try.ntmps48
  go_wp2
  go_ret
  exact ⟨by first | rfl | (simp; done) | (simp [*]; done), by repeat (first | exact Drawn0.refl _ | apply Drawn0.step)⟩

/-! ### bits_Mul64: function 62 -/
def bits_Mul64.f (a0 : Int) (a1 : Int) : Option (Int × Int) := some (IntKind.u64.wrap ((IntKind.u64.wrap ((IntKind.u64.wrap ((a0 / 4294967296) * (a1 / 4294967296))) + ((IntKind.u64.wrap ((IntKind.u64.wrap ((a0 / 4294967296) * (Go.bits .and .u64 a1 4294967295))) + ((IntKind.u64.wrap ((Go.bits .and .u64 a0 4294967295) * (Go.bits .and .u64 a1 4294967295))) / 4294967296))) / 4294967296))) + ((IntKind.u64.wrap ((Go.bits .and .u64 (IntKind.u64.wrap ((IntKind.u64.wrap ((a0 / 4294967296) * (Go.bits .and .u64 a1 4294967295))) + ((IntKind.u64.wrap ((Go.bits .and .u64 a0 4294967295) * (Go.bits .and .u64 a1 4294967295))) / 4294967296))) 4294967295) + (IntKind.u64.wrap ((Go.bits .and .u64 a0 4294967295) * (a1 / 4294967296))))) / 4294967296)), IntKind.u64.wrap (a0 * a1))
set_option maxHeartbeats 8000000 in
set_option maxRecDepth 100000 in
theorem bits_Mul64.calls (a0 : Int) (a1 : Int) (r1 : Int) (r2 : Int) (w : World) (h : bits_Mul64.f a0 a1 = some (r1, r2)) :
    Calls Try.prog 62 #[.int .u64 a0, .int .u64 a1] w fun e w' => e = .returned (.tuple #[.int .u64 r1, .int .u64 r2]) ∧ Drawn0 w w' := by
  have H : (some (IntKind.u64.wrap ((IntKind.u64.wrap ((IntKind.u64.wrap ((a0 / 4294967296) * (a1 / 4294967296))) + ((IntKind.u64.wrap ((IntKind.u64.wrap ((a0 / 4294967296) * (Go.bits .and .u64 a1 4294967295))) + ((IntKind.u64.wrap ((Go.bits .and .u64 a0 4294967295) * (Go.bits .and .u64 a1 4294967295))) / 4294967296))) / 4294967296))) + ((IntKind.u64.wrap ((Go.bits .and .u64 (IntKind.u64.wrap ((IntKind.u64.wrap ((a0 / 4294967296) * (Go.bits .and .u64 a1 4294967295))) + ((IntKind.u64.wrap ((Go.bits .and .u64 a0 4294967295) * (Go.bits .and .u64 a1 4294967295))) / 4294967296))) 4294967295) + (IntKind.u64.wrap ((Go.bits .and .u64 a0 4294967295) * (a1 / 4294967296))))) / 4294967296)), IntKind.u64.wrap (a0 * a1))) = some (r1, r2) := h
  clear h
  simp only [Option.some.injEq, Prod.mk.injEq] at H
  obtain ⟨rfl, rfl⟩ := H
  go_enter Try.func62, Try.ntmps62
  go_wp2
  go_ret2
  exact ⟨by first | rfl | (simp; done) | (simp [*]; done), by repeat (first | exact Drawn0.refl _ | apply Drawn0.step)⟩

/-! ### word_number_mul: function 49 -/
def word_number_mul.f (a0 : Int) (a1 : Int) : Option (Int) := (bits_Mul64.f (IntKind.u64.wrap (a0)) (IntKind.u64.wrap (a1))).bind fun bt102 => (some (wrap64 (bt102.2)))
set_option maxHeartbeats 8000000 in
set_option maxRecDepth 100000 in
theorem word_number_mul.calls (a0 : Int) (a1 : Int) (r : Int) (w : World) (h : word_number_mul.f a0 a1 = some r) :
    Calls Try.prog 49 #[.int .i64 a0, .int .i64 a1] w fun e w' => e = .returned (.int .i64 r) ∧ Drawn0 w w' := by
  have H : ((bits_Mul64.f (IntKind.u64.wrap (a0)) (IntKind.u64.wrap (a1))).bind fun bt102 => (some (wrap64 (bt102.2)))) = some r := h
  clear h
  replace H := Option.bind_eq_some_iff.mp H
  obtain ⟨⟨t102, t103⟩, A30, H⟩ := H
  replace H : (some (wrap64 (t103))) = some r := H
  have A3 := Aside0.mk A30
  clear A30
  obtain rfl := Option.some.inj H
  go_enter Try.func49, Try.ntmps49
  go_wp2_with (first | ((with_reducible refine gate_callee (f := 62) rfl ?_); refine goesL_ (some 12) rfl rfl Try.func62 (by kernel_rfl) rfl #[.int .u64 (IntKind.u64.wrap (a0)), .int .u64 (IntKind.u64.wrap (a1))] rfl (by (try simp only [List.map_toArray, List.map_cons, List.map_nil]); first | done | rfl | (simp only [List.length_drop, List.length_take]; rfl)) ?_; (with_reducible refine (bits_Mul64.calls (IntKind.u64.wrap (a0)) (IntKind.u64.wrap (a1)) t102 t103 _ A3.out).mono ?_); rintro e w' ⟨rfl, ⟨nd, rfl⟩⟩; refine ⟨_, rfl, ?_⟩))
  go_ret
  exact ⟨by first | rfl | (simp; done) | (simp [*]; done), by repeat (first | exact Drawn0.refl _ | apply Drawn0.step)⟩

/-! ### word_number_div: function 50 -/
def word_number_div.f (a0 : Int) (a1 : Int) : Option (Int) := if a1 = 0 then (some 0) else (some (wrap64 (Int.tdiv a0 a1)))
set_option maxHeartbeats 8000000 in
set_option maxRecDepth 100000 in
theorem word_number_div.calls (a0 : Int) (a1 : Int) (r : Int) (w : World) (h : word_number_div.f a0 a1 = some r) :
    Calls Try.prog 50 #[.int .i64 a0, .int .i64 a1] w fun e w' => e = .returned (.int .i64 r) ∧ Drawn0 w w' := by
  have H : (if a1 = 0 then (some 0) else (some (wrap64 (Int.tdiv a0 a1)))) = some r := h
  clear h
  by_cases c3 : a1 = 0
  · rw [if_pos c3] at H
    have c3b0 : (a1 == 0) = true := beq_iff_eq.mpr c3
    have c3b1 : (a1 != 0) = false := bne_eq_false_iff_eq.mpr c3
    clear c3
    obtain rfl := Option.some.inj H
    go_enter Try.func50, Try.ntmps50
    go_wp2
    go_ret
    exact ⟨by first | rfl | (simp; done) | (simp [*]; done), by repeat (first | exact Drawn0.refl _ | apply Drawn0.step)⟩
  · rw [if_neg c3] at H
    have c3b0 : (a1 == 0) = false := beq_eq_false_iff_ne.mpr c3
    have c3b1 : (a1 != 0) = true := bne_iff_ne.mpr c3
    obtain rfl := Option.some.inj H
    go_enter Try.func50, Try.ntmps50
    go_wp2
    go_ret
    exact ⟨by first | rfl | (simp; done) | (simp [*]; done), by repeat (first | exact Drawn0.refl _ | apply Drawn0.step)⟩

/-! ### word_number_mod: function 51 -/
def word_number_mod.f (a0 : Int) (a1 : Int) : Option (Int) := if a1 = 0 then (some a0) else (some (Int.tmod a0 a1))
set_option maxHeartbeats 8000000 in
set_option maxRecDepth 100000 in
theorem word_number_mod.calls (a0 : Int) (a1 : Int) (r : Int) (w : World) (h : word_number_mod.f a0 a1 = some r) :
    Calls Try.prog 51 #[.int .i64 a0, .int .i64 a1] w fun e w' => e = .returned (.int .i64 r) ∧ Drawn0 w w' := by
  have H : (if a1 = 0 then (some a0) else (some (Int.tmod a0 a1))) = some r := h
  clear h
  by_cases c3 : a1 = 0
  · rw [if_pos c3] at H
    have c3b0 : (a1 == 0) = true := beq_iff_eq.mpr c3
    have c3b1 : (a1 != 0) = false := bne_eq_false_iff_eq.mpr c3
    clear c3
    obtain rfl := Option.some.inj H
    go_enter Try.func51, Try.ntmps51
    go_wp2
    go_ret
    exact ⟨by first | rfl | (simp; done) | (simp [*]; done), by repeat (first | exact Drawn0.refl _ | apply Drawn0.step)⟩
  · rw [if_neg c3] at H
    have c3b0 : (a1 == 0) = false := beq_eq_false_iff_ne.mpr c3
    have c3b1 : (a1 != 0) = true := bne_iff_ne.mpr c3
    obtain rfl := Option.some.inj H
    go_enter Try.func51, Try.ntmps51
    go_wp2
    go_ret
    exact ⟨by first | rfl | (simp; done) | (simp [*]; done), by repeat (first | exact Drawn0.refl _ | apply Drawn0.step)⟩

/-! ### word_Do: function 13 -/
def word_Do.f (a0 : Int) (a1 : Int) (a2 : Int) : Option (Int) := if a0 = 0 then ((word_wrapped.f a1).bind fun t104 => ((word_wrapped.f a2).bind fun t105 => ((word_number_add.f t104 t105).bind fun t106 => ((word_Wrap.f t106).bind fun t107 => (some t107))))) else (if a0 = 1 then ((word_wrapped.f a1).bind fun t108 => ((word_wrapped.f a2).bind fun t109 => ((word_number_sub.f t108 t109).bind fun t110 => ((word_Wrap.f t110).bind fun t111 => (some t111))))) else (if a0 = 2 then ((word_wrapped.f a1).bind fun t112 => ((word_wrapped.f a2).bind fun t113 => ((word_number_mul.f t112 t113).bind fun t114 => ((word_Wrap.f t114).bind fun t115 => (some t115))))) else (if a0 = 3 then ((word_wrapped.f a1).bind fun t116 => ((word_wrapped.f a2).bind fun t117 => ((word_number_div.f t116 t117).bind fun t118 => ((word_Wrap.f t118).bind fun t119 => (some t119))))) else (if a0 = 4 then ((word_wrapped.f a1).bind fun t120 => ((word_wrapped.f a2).bind fun t121 => ((word_number_mod.f t120 t121).bind fun t122 => ((word_Wrap.f t122).bind fun t123 => (some t123))))) else (some 0)))))
set_option maxHeartbeats 8000000 in
set_option maxRecDepth 100000 in
theorem word_Do.calls (a0 : Int) (a1 : Int) (a2 : Int) (r : Int) (w : World) (h : word_Do.f a0 a1 a2 = some r) :
    Calls Try.prog 13 #[.int .i64 a0, .int .i64 a1, .int .i64 a2] w fun e w' => e = .returned (.int .i64 r) ∧ Drawn0 w w' := by
  have H : (if a0 = 0 then ((word_wrapped.f a1).bind fun t104 => ((word_wrapped.f a2).bind fun t105 => ((word_number_add.f t104 t105).bind fun t106 => ((word_Wrap.f t106).bind fun t107 => (some t107))))) else (if a0 = 1 then ((word_wrapped.f a1).bind fun t108 => ((word_wrapped.f a2).bind fun t109 => ((word_number_sub.f t108 t109).bind fun t110 => ((word_Wrap.f t110).bind fun t111 => (some t111))))) else (if a0 = 2 then ((word_wrapped.f a1).bind fun t112 => ((word_wrapped.f a2).bind fun t113 => ((word_number_mul.f t112 t113).bind fun t114 => ((word_Wrap.f t114).bind fun t115 => (some t115))))) else (if a0 = 3 then ((word_wrapped.f a1).bind fun t116 => ((word_wrapped.f a2).bind fun t117 => ((word_number_div.f t116 t117).bind fun t118 => ((word_Wrap.f t118).bind fun t119 => (some t119))))) else (if a0 = 4 then ((word_wrapped.f a1).bind fun t120 => ((word_wrapped.f a2).bind fun t121 => ((word_number_mod.f t120 t121).bind fun t122 => ((word_Wrap.f t122).bind fun t123 => (some t123))))) else (some 0)))))) = some r := h
  clear h
  by_cases c4 : a0 = 0
  · rw [if_pos c4] at H
    have c4b0 : (a0 == 0) = true := beq_iff_eq.mpr c4
    have c4b1 : (a0 != 0) = false := bne_eq_false_iff_eq.mpr c4
    clear c4
    replace H := Option.bind_eq_some_iff.mp H
    obtain ⟨t104, A50, H⟩ := H
    replace H : ((word_wrapped.f a2).bind fun t105 => ((word_number_add.f t104 t105).bind fun t106 => ((word_Wrap.f t106).bind fun t107 => (some t107)))) = some r := H
    have A5 := Aside0.mk A50
    clear A50
    replace H := Option.bind_eq_some_iff.mp H
    obtain ⟨t105, A60, H⟩ := H
    replace H : ((word_number_add.f t104 t105).bind fun t106 => ((word_Wrap.f t106).bind fun t107 => (some t107))) = some r := H
    have A6 := Aside0.mk A60
    clear A60
    replace H := Option.bind_eq_some_iff.mp H
    obtain ⟨t106, A70, H⟩ := H
    replace H : ((word_Wrap.f t106).bind fun t107 => (some t107)) = some r := H
    have A7 := Aside0.mk A70
    clear A70
    replace H := Option.bind_eq_some_iff.mp H
    obtain ⟨t107, A80, H⟩ := H
    replace H : (some t107) = some r := H
    have A8 := Aside0.mk A80
    clear A80
    obtain rfl := Option.some.inj H
    go_enter Try.func13, Try.ntmps13
    go_wp2_with (first | ((with_reducible refine gate_callee (f := 52) rfl ?_); refine goesL_ (some 21) rfl rfl Try.func52 (by kernel_rfl) rfl #[.int .i64 a1] rfl (by (try simp only [List.map_toArray, List.map_cons, List.map_nil]); first | done | rfl | (simp only [List.length_drop, List.length_take]; rfl)) ?_; (with_reducible refine (word_wrapped.calls a1 t104 _ A5.out).mono ?_); rintro e w' ⟨rfl, ⟨nd, rfl⟩⟩; refine ⟨_, rfl, ?_⟩) | ((with_reducible refine gate_callee (f := 52) rfl ?_); refine goesL_ (some 23) rfl rfl Try.func52 (by kernel_rfl) rfl #[.int .i64 a2] rfl (by (try simp only [List.map_toArray, List.map_cons, List.map_nil]); first | done | rfl | (simp only [List.length_drop, List.length_take]; rfl)) ?_; (with_reducible refine (word_wrapped.calls a2 t105 _ A6.out).mono ?_); rintro e w' ⟨rfl, ⟨nd, rfl⟩⟩; refine ⟨_, rfl, ?_⟩) | ((with_reducible refine gate_value (x := .tmp 19) rfl ?_); refine goesV_ (some 24) rfl rfl Try.func47 (by kernel_rfl) rfl #[.int .i64 t104, .int .i64 t105] rfl rfl (by (try simp only [List.map_toArray, List.map_cons, List.map_nil]); first | done | rfl | (simp only [List.length_drop, List.length_take]; rfl)) ?_; (with_reducible refine (word_number_add.calls t104 t105 t106 _ A7.out).mono ?_); rintro e w' ⟨rfl, ⟨nd, rfl⟩⟩; refine ⟨_, rfl, ?_⟩) | ((with_reducible refine gate_callee (f := 15) rfl ?_); refine goesL_ (some 25) rfl rfl Try.func15 (by kernel_rfl) rfl #[.int .i64 t106] rfl (by (try simp only [List.map_toArray, List.map_cons, List.map_nil]); first | done | rfl | (simp only [List.length_drop, List.length_take]; rfl)) ?_; (with_reducible refine (word_Wrap.calls t106 t107 _ A8.out).mono ?_); rintro e w' ⟨rfl, ⟨nd, rfl⟩⟩; refine ⟨_, rfl, ?_⟩))
    go_ret
    exact ⟨by first | rfl | (simp; done) | (simp [*]; done), by repeat (first | exact Drawn0.refl _ | apply Drawn0.step)⟩
  · rw [if_neg c4] at H
    have c4b0 : (a0 == 0) = false := beq_eq_false_iff_ne.mpr c4
    have c4b1 : (a0 != 0) = true := bne_iff_ne.mpr c4
    by_cases c9 : a0 = 1
    · rw [if_pos c9] at H
      have c9b0 : (a0 == 1) = true := beq_iff_eq.mpr c9
      have c9b1 : (a0 != 1) = false := bne_eq_false_iff_eq.mpr c9
      clear c9
      replace H := Option.bind_eq_some_iff.mp H
      obtain ⟨t108, A100, H⟩ := H
      replace H : ((word_wrapped.f a2).bind fun t109 => ((word_number_sub.f t108 t109).bind fun t110 => ((word_Wrap.f t110).bind fun t111 => (some t111)))) = some r := H
      have A10 := Aside0.mk A100
      clear A100
      replace H := Option.bind_eq_some_iff.mp H
      obtain ⟨t109, A110, H⟩ := H
      replace H : ((word_number_sub.f t108 t109).bind fun t110 => ((word_Wrap.f t110).bind fun t111 => (some t111))) = some r := H
      have A11 := Aside0.mk A110
      clear A110
      replace H := Option.bind_eq_some_iff.mp H
      obtain ⟨t110, A120, H⟩ := H
      replace H : ((word_Wrap.f t110).bind fun t111 => (some t111)) = some r := H
      have A12 := Aside0.mk A120
      clear A120
      replace H := Option.bind_eq_some_iff.mp H
      obtain ⟨t111, A130, H⟩ := H
      replace H : (some t111) = some r := H
      have A13 := Aside0.mk A130
      clear A130
      obtain rfl := Option.some.inj H
      go_enter Try.func13, Try.ntmps13
      go_wp2_with (first | ((with_reducible refine gate_callee (f := 52) rfl ?_); refine goesL_ (some 21) rfl rfl Try.func52 (by kernel_rfl) rfl #[.int .i64 a1] rfl (by (try simp only [List.map_toArray, List.map_cons, List.map_nil]); first | done | rfl | (simp only [List.length_drop, List.length_take]; rfl)) ?_; (with_reducible refine (word_wrapped.calls a1 t108 _ A10.out).mono ?_); rintro e w' ⟨rfl, ⟨nd, rfl⟩⟩; refine ⟨_, rfl, ?_⟩) | ((with_reducible refine gate_callee (f := 52) rfl ?_); refine goesL_ (some 23) rfl rfl Try.func52 (by kernel_rfl) rfl #[.int .i64 a2] rfl (by (try simp only [List.map_toArray, List.map_cons, List.map_nil]); first | done | rfl | (simp only [List.length_drop, List.length_take]; rfl)) ?_; (with_reducible refine (word_wrapped.calls a2 t109 _ A11.out).mono ?_); rintro e w' ⟨rfl, ⟨nd, rfl⟩⟩; refine ⟨_, rfl, ?_⟩) | ((with_reducible refine gate_value (x := .tmp 19) rfl ?_); refine goesV_ (some 24) rfl rfl Try.func48 (by kernel_rfl) rfl #[.int .i64 t108, .int .i64 t109] rfl rfl (by (try simp only [List.map_toArray, List.map_cons, List.map_nil]); first | done | rfl | (simp only [List.length_drop, List.length_take]; rfl)) ?_; (with_reducible refine (word_number_sub.calls t108 t109 t110 _ A12.out).mono ?_); rintro e w' ⟨rfl, ⟨nd, rfl⟩⟩; refine ⟨_, rfl, ?_⟩) | ((with_reducible refine gate_callee (f := 15) rfl ?_); refine goesL_ (some 25) rfl rfl Try.func15 (by kernel_rfl) rfl #[.int .i64 t110] rfl (by (try simp only [List.map_toArray, List.map_cons, List.map_nil]); first | done | rfl | (simp only [List.length_drop, List.length_take]; rfl)) ?_; (with_reducible refine (word_Wrap.calls t110 t111 _ A13.out).mono ?_); rintro e w' ⟨rfl, ⟨nd, rfl⟩⟩; refine ⟨_, rfl, ?_⟩))
      go_ret
      exact ⟨by first | rfl | (simp; done) | (simp [*]; done), by repeat (first | exact Drawn0.refl _ | apply Drawn0.step)⟩
    · rw [if_neg c9] at H
      have c9b0 : (a0 == 1) = false := beq_eq_false_iff_ne.mpr c9
      have c9b1 : (a0 != 1) = true := bne_iff_ne.mpr c9
      by_cases c14 : a0 = 2
      · rw [if_pos c14] at H
        have c14b0 : (a0 == 2) = true := beq_iff_eq.mpr c14
        have c14b1 : (a0 != 2) = false := bne_eq_false_iff_eq.mpr c14
        clear c14
        replace H := Option.bind_eq_some_iff.mp H
        obtain ⟨t112, A150, H⟩ := H
        replace H : ((word_wrapped.f a2).bind fun t113 => ((word_number_mul.f t112 t113).bind fun t114 => ((word_Wrap.f t114).bind fun t115 => (some t115)))) = some r := H
        have A15 := Aside0.mk A150
        clear A150
        replace H := Option.bind_eq_some_iff.mp H
        obtain ⟨t113, A160, H⟩ := H
        replace H : ((word_number_mul.f t112 t113).bind fun t114 => ((word_Wrap.f t114).bind fun t115 => (some t115))) = some r := H
        have A16 := Aside0.mk A160
        clear A160
        replace H := Option.bind_eq_some_iff.mp H
        obtain ⟨t114, A170, H⟩ := H
        replace H : ((word_Wrap.f t114).bind fun t115 => (some t115)) = some r := H
        have A17 := Aside0.mk A170
        clear A170
        replace H := Option.bind_eq_some_iff.mp H
        obtain ⟨t115, A180, H⟩ := H
        replace H : (some t115) = some r := H
        have A18 := Aside0.mk A180
        clear A180
        obtain rfl := Option.some.inj H
        go_enter Try.func13, Try.ntmps13
        go_wp2_with (first | ((with_reducible refine gate_callee (f := 52) rfl ?_); refine goesL_ (some 21) rfl rfl Try.func52 (by kernel_rfl) rfl #[.int .i64 a1] rfl (by (try simp only [List.map_toArray, List.map_cons, List.map_nil]); first | done | rfl | (simp only [List.length_drop, List.length_take]; rfl)) ?_; (with_reducible refine (word_wrapped.calls a1 t112 _ A15.out).mono ?_); rintro e w' ⟨rfl, ⟨nd, rfl⟩⟩; refine ⟨_, rfl, ?_⟩) | ((with_reducible refine gate_callee (f := 52) rfl ?_); refine goesL_ (some 23) rfl rfl Try.func52 (by kernel_rfl) rfl #[.int .i64 a2] rfl (by (try simp only [List.map_toArray, List.map_cons, List.map_nil]); first | done | rfl | (simp only [List.length_drop, List.length_take]; rfl)) ?_; (with_reducible refine (word_wrapped.calls a2 t113 _ A16.out).mono ?_); rintro e w' ⟨rfl, ⟨nd, rfl⟩⟩; refine ⟨_, rfl, ?_⟩) | ((with_reducible refine gate_value (x := .tmp 19) rfl ?_); refine goesV_ (some 24) rfl rfl Try.func49 (by kernel_rfl) rfl #[.int .i64 t112, .int .i64 t113] rfl rfl (by (try simp only [List.map_toArray, List.map_cons, List.map_nil]); first | done | rfl | (simp only [List.length_drop, List.length_take]; rfl)) ?_; (with_reducible refine (word_number_mul.calls t112 t113 t114 _ A17.out).mono ?_); rintro e w' ⟨rfl, ⟨nd, rfl⟩⟩; refine ⟨_, rfl, ?_⟩) | ((with_reducible refine gate_callee (f := 15) rfl ?_); refine goesL_ (some 25) rfl rfl Try.func15 (by kernel_rfl) rfl #[.int .i64 t114] rfl (by (try simp only [List.map_toArray, List.map_cons, List.map_nil]); first | done | rfl | (simp only [List.length_drop, List.length_take]; rfl)) ?_; (with_reducible refine (word_Wrap.calls t114 t115 _ A18.out).mono ?_); rintro e w' ⟨rfl, ⟨nd, rfl⟩⟩; refine ⟨_, rfl, ?_⟩))
        go_ret
        exact ⟨by first | rfl | (simp; done) | (simp [*]; done), by repeat (first | exact Drawn0.refl _ | apply Drawn0.step)⟩
      · rw [if_neg c14] at H
        have c14b0 : (a0 == 2) = false := beq_eq_false_iff_ne.mpr c14
        have c14b1 : (a0 != 2) = true := bne_iff_ne.mpr c14
        by_cases c19 : a0 = 3
        · rw [if_pos c19] at H
          have c19b0 : (a0 == 3) = true := beq_iff_eq.mpr c19
          have c19b1 : (a0 != 3) = false := bne_eq_false_iff_eq.mpr c19
          clear c19
          replace H := Option.bind_eq_some_iff.mp H
          obtain ⟨t116, A200, H⟩ := H
          replace H : ((word_wrapped.f a2).bind fun t117 => ((word_number_div.f t116 t117).bind fun t118 => ((word_Wrap.f t118).bind fun t119 => (some t119)))) = some r := H
          have A20 := Aside0.mk A200
          clear A200
          replace H := Option.bind_eq_some_iff.mp H
          obtain ⟨t117, A210, H⟩ := H
          replace H : ((word_number_div.f t116 t117).bind fun t118 => ((word_Wrap.f t118).bind fun t119 => (some t119))) = some r := H
          have A21 := Aside0.mk A210
          clear A210
          replace H := Option.bind_eq_some_iff.mp H
          obtain ⟨t118, A220, H⟩ := H
          replace H : ((word_Wrap.f t118).bind fun t119 => (some t119)) = some r := H
          have A22 := Aside0.mk A220
          clear A220
          replace H := Option.bind_eq_some_iff.mp H
          obtain ⟨t119, A230, H⟩ := H
          replace H : (some t119) = some r := H
          have A23 := Aside0.mk A230
          clear A230
          obtain rfl := Option.some.inj H
          go_enter Try.func13, Try.ntmps13
          go_wp2_with (first | ((with_reducible refine gate_callee (f := 52) rfl ?_); refine goesL_ (some 21) rfl rfl Try.func52 (by kernel_rfl) rfl #[.int .i64 a1] rfl (by (try simp only [List.map_toArray, List.map_cons, List.map_nil]); first | done | rfl | (simp only [List.length_drop, List.length_take]; rfl)) ?_; (with_reducible refine (word_wrapped.calls a1 t116 _ A20.out).mono ?_); rintro e w' ⟨rfl, ⟨nd, rfl⟩⟩; refine ⟨_, rfl, ?_⟩) | ((with_reducible refine gate_callee (f := 52) rfl ?_); refine goesL_ (some 23) rfl rfl Try.func52 (by kernel_rfl) rfl #[.int .i64 a2] rfl (by (try simp only [List.map_toArray, List.map_cons, List.map_nil]); first | done | rfl | (simp only [List.length_drop, List.length_take]; rfl)) ?_; (with_reducible refine (word_wrapped.calls a2 t117 _ A21.out).mono ?_); rintro e w' ⟨rfl, ⟨nd, rfl⟩⟩; refine ⟨_, rfl, ?_⟩) | ((with_reducible refine gate_value (x := .tmp 19) rfl ?_); refine goesV_ (some 24) rfl rfl Try.func50 (by kernel_rfl) rfl #[.int .i64 t116, .int .i64 t117] rfl rfl (by (try simp only [List.map_toArray, List.map_cons, List.map_nil]); first | done | rfl | (simp only [List.length_drop, List.length_take]; rfl)) ?_; (with_reducible refine (word_number_div.calls t116 t117 t118 _ A22.out).mono ?_); rintro e w' ⟨rfl, ⟨nd, rfl⟩⟩; refine ⟨_, rfl, ?_⟩) | ((with_reducible refine gate_callee (f := 15) rfl ?_); refine goesL_ (some 25) rfl rfl Try.func15 (by kernel_rfl) rfl #[.int .i64 t118] rfl (by (try simp only [List.map_toArray, List.map_cons, List.map_nil]); first | done | rfl | (simp only [List.length_drop, List.length_take]; rfl)) ?_; (with_reducible refine (word_Wrap.calls t118 t119 _ A23.out).mono ?_); rintro e w' ⟨rfl, ⟨nd, rfl⟩⟩; refine ⟨_, rfl, ?_⟩))
          go_ret
          exact ⟨by first | rfl | (simp; done) | (simp [*]; done), by repeat (first | exact Drawn0.refl _ | apply Drawn0.step)⟩
        · rw [if_neg c19] at H
          have c19b0 : (a0 == 3) = false := beq_eq_false_iff_ne.mpr c19
          have c19b1 : (a0 != 3) = true := bne_iff_ne.mpr c19
          by_cases c24 : a0 = 4
          · rw [if_pos c24] at H
            have c24b0 : (a0 == 4) = true := beq_iff_eq.mpr c24
            have c24b1 : (a0 != 4) = false := bne_eq_false_iff_eq.mpr c24
            clear c24
            replace H := Option.bind_eq_some_iff.mp H
            obtain ⟨t120, A250, H⟩ := H
            replace H : ((word_wrapped.f a2).bind fun t121 => ((word_number_mod.f t120 t121).bind fun t122 => ((word_Wrap.f t122).bind fun t123 => (some t123)))) = some r := H
            have A25 := Aside0.mk A250
            clear A250
            replace H := Option.bind_eq_some_iff.mp H
            obtain ⟨t121, A260, H⟩ := H
            replace H : ((word_number_mod.f t120 t121).bind fun t122 => ((word_Wrap.f t122).bind fun t123 => (some t123))) = some r := H
            have A26 := Aside0.mk A260
            clear A260
            replace H := Option.bind_eq_some_iff.mp H
            obtain ⟨t122, A270, H⟩ := H
            replace H : ((word_Wrap.f t122).bind fun t123 => (some t123)) = some r := H
            have A27 := Aside0.mk A270
            clear A270
            replace H := Option.bind_eq_some_iff.mp H
            obtain ⟨t123, A280, H⟩ := H
            replace H : (some t123) = some r := H
            have A28 := Aside0.mk A280
            clear A280
            obtain rfl := Option.some.inj H
            go_enter Try.func13, Try.ntmps13
            go_wp2_with (first | ((with_reducible refine gate_callee (f := 52) rfl ?_); refine goesL_ (some 21) rfl rfl Try.func52 (by kernel_rfl) rfl #[.int .i64 a1] rfl (by (try simp only [List.map_toArray, List.map_cons, List.map_nil]); first | done | rfl | (simp only [List.length_drop, List.length_take]; rfl)) ?_; (with_reducible refine (word_wrapped.calls a1 t120 _ A25.out).mono ?_); rintro e w' ⟨rfl, ⟨nd, rfl⟩⟩; refine ⟨_, rfl, ?_⟩) | ((with_reducible refine gate_callee (f := 52) rfl ?_); refine goesL_ (some 23) rfl rfl Try.func52 (by kernel_rfl) rfl #[.int .i64 a2] rfl (by (try simp only [List.map_toArray, List.map_cons, List.map_nil]); first | done | rfl | (simp only [List.length_drop, List.length_take]; rfl)) ?_; (with_reducible refine (word_wrapped.calls a2 t121 _ A26.out).mono ?_); rintro e w' ⟨rfl, ⟨nd, rfl⟩⟩; refine ⟨_, rfl, ?_⟩) | ((with_reducible refine gate_value (x := .tmp 19) rfl ?_); refine goesV_ (some 24) rfl rfl Try.func51 (by kernel_rfl) rfl #[.int .i64 t120, .int .i64 t121] rfl rfl (by (try simp only [List.map_toArray, List.map_cons, List.map_nil]); first | done | rfl | (simp only [List.length_drop, List.length_take]; rfl)) ?_; (with_reducible refine (word_number_mod.calls t120 t121 t122 _ A27.out).mono ?_); rintro e w' ⟨rfl, ⟨nd, rfl⟩⟩; refine ⟨_, rfl, ?_⟩) | ((with_reducible refine gate_callee (f := 15) rfl ?_); refine goesL_ (some 25) rfl rfl Try.func15 (by kernel_rfl) rfl #[.int .i64 t122] rfl (by (try simp only [List.map_toArray, List.map_cons, List.map_nil]); first | done | rfl | (simp only [List.length_drop, List.length_take]; rfl)) ?_; (with_reducible refine (word_Wrap.calls t122 t123 _ A28.out).mono ?_); rintro e w' ⟨rfl, ⟨nd, rfl⟩⟩; refine ⟨_, rfl, ?_⟩))
            go_ret
            exact ⟨by first | rfl | (simp; done) | (simp [*]; done), by repeat (first | exact Drawn0.refl _ | apply Drawn0.step)⟩
          · rw [if_neg c24] at H
            have c24b0 : (a0 == 4) = false := beq_eq_false_iff_ne.mpr c24
            have c24b1 : (a0 != 4) = true := bne_iff_ne.mpr c24
            obtain rfl := Option.some.inj H
            go_enter Try.func13, Try.ntmps13
            go_wp2
            go_ret
            exact ⟨by first | rfl | (simp; done) | (simp [*]; done), by repeat (first | exact Drawn0.refl _ | apply Drawn0.step)⟩

/-! ### handloomlaw01_WordRing_1: function 12 -/
def handloomlaw01_WordRing_1.f (a0 : Int) (a1 : Int) : Option (Int) := (word_Do.f 0 a0 a1).bind fun t124 => (some t124)
set_option maxHeartbeats 8000000 in
set_option maxRecDepth 100000 in
theorem handloomlaw01_WordRing_1.calls (a0 : Int) (a1 : Int) (r : Int) (w : World) (h : handloomlaw01_WordRing_1.f a0 a1 = some r) :
    Calls Try.prog 12 #[.int .i64 a0, .int .i64 a1] w fun e w' => e = .returned (.int .i64 r) ∧ Drawn0 w w' := by
  have H : ((word_Do.f 0 a0 a1).bind fun t124 => (some t124)) = some r := h
  clear h
  replace H := Option.bind_eq_some_iff.mp H
  obtain ⟨t124, A30, H⟩ := H
  replace H : (some t124) = some r := H
  have A3 := Aside0.mk A30
  clear A30
  obtain rfl := Option.some.inj H
  go_enter Try.func12, Try.ntmps12
  go_wp2_with (first | ((with_reducible refine gate_callee (f := 13) rfl ?_); refine goesL_ (some 7) rfl rfl Try.func13 (by kernel_rfl) rfl #[.int .i64 0, .int .i64 a0, .int .i64 a1] rfl (by (try simp only [List.map_toArray, List.map_cons, List.map_nil]); first | done | rfl | (simp only [List.length_drop, List.length_take]; rfl)) ?_; (with_reducible refine (word_Do.calls 0 a0 a1 t124 _ A3.out).mono ?_); rintro e w' ⟨rfl, ⟨nd, rfl⟩⟩; refine ⟨_, rfl, ?_⟩))
  go_ret
  exact ⟨by first | rfl | (simp; done) | (simp [*]; done), by repeat (first | exact Drawn0.refl _ | apply Drawn0.step)⟩

/-! ### handloomlaw01_WordRing_2: function 14 -/
def handloomlaw01_WordRing_2.f (a0 : Int) (a1 : Int) : Option (Int) := (word_Do.f 2 a0 a1).bind fun t125 => (some t125)
set_option maxHeartbeats 8000000 in
set_option maxRecDepth 100000 in
theorem handloomlaw01_WordRing_2.calls (a0 : Int) (a1 : Int) (r : Int) (w : World) (h : handloomlaw01_WordRing_2.f a0 a1 = some r) :
    Calls Try.prog 14 #[.int .i64 a0, .int .i64 a1] w fun e w' => e = .returned (.int .i64 r) ∧ Drawn0 w w' := by
  have H : ((word_Do.f 2 a0 a1).bind fun t125 => (some t125)) = some r := h
  clear h
  replace H := Option.bind_eq_some_iff.mp H
  obtain ⟨t125, A30, H⟩ := H
  replace H : (some t125) = some r := H
  have A3 := Aside0.mk A30
  clear A30
  obtain rfl := Option.some.inj H
  go_enter Try.func14, Try.ntmps14
  go_wp2_with (first | ((with_reducible refine gate_callee (f := 13) rfl ?_); refine goesL_ (some 7) rfl rfl Try.func13 (by kernel_rfl) rfl #[.int .i64 2, .int .i64 a0, .int .i64 a1] rfl (by (try simp only [List.map_toArray, List.map_cons, List.map_nil]); first | done | rfl | (simp only [List.length_drop, List.length_take]; rfl)) ?_; (with_reducible refine (word_Do.calls 2 a0 a1 t125 _ A3.out).mono ?_); rintro e w' ⟨rfl, ⟨nd, rfl⟩⟩; refine ⟨_, rfl, ?_⟩))
  go_ret
  exact ⟨by first | rfl | (simp; done) | (simp [*]; done), by repeat (first | exact Drawn0.refl _ | apply Drawn0.step)⟩

/-! ### word_Imm: function 22 -/
def word_Imm.f (a0 : Int) : Option (Int) := some (Go.bits .or .u64 (IntKind.u64.wrap ((IntKind.u64.wrap (a0)) * 2)) 1)
set_option maxHeartbeats 8000000 in
set_option maxRecDepth 100000 in
theorem word_Imm.calls (a0 : Int) (r : Int) (w : World) (h : word_Imm.f a0 = some r) :
    Calls Try.prog 22 #[.int .i64 a0] w fun e w' => e = .returned (.int .u64 r) ∧ Drawn0 w w' := by
  have H : (some (Go.bits .or .u64 (IntKind.u64.wrap ((IntKind.u64.wrap (a0)) * 2)) 1)) = some r := h
  clear h
  obtain rfl := Option.some.inj H
  go_enter Try.func22, Try.ntmps22
  go_wp2
  go_ret
  exact ⟨by first | rfl | (simp; done) | (simp [*]; done), by repeat (first | exact Drawn0.refl _ | apply Drawn0.step)⟩

/-! ### word_Ptr: function 24 -/
def word_Ptr.f (a0 : Int) : Option (Int) := some (IntKind.u64.wrap ((IntKind.u64.wrap (a0)) * 2))
set_option maxHeartbeats 8000000 in
set_option maxRecDepth 100000 in
theorem word_Ptr.calls (a0 : Int) (r : Int) (w : World) (h : word_Ptr.f a0 = some r) :
    Calls Try.prog 24 #[.int .u32 a0] w fun e w' => e = .returned (.int .u64 r) ∧ Drawn0 w w' := by
  have H : (some (IntKind.u64.wrap ((IntKind.u64.wrap (a0)) * 2))) = some r := h
  clear h
  obtain rfl := Option.some.inj H
  go_enter Try.func24, Try.ntmps24
  go_wp2
  go_ret
  exact ⟨by first | rfl | (simp; done) | (simp [*]; done), by repeat (first | exact Drawn0.refl _ | apply Drawn0.step)⟩

/-! ### handloomlaw01_awake: function 16 -/
def handloomlaw01_awake.f  : Option (Bool) := (word_Wrap.f 4611686018427387904).bind fun t126 => (if t126 = (-4611686018427387904) then ((word_Do.f 3 (-7) 2).bind fun t127 => (if t127 = (-3) then ((word_Do.f 4 (-7) 2).bind fun t128 => (if t128 = (-1) then ((word_Do.f 4 5 0).bind fun t129 => (if t129 = 5 then ((word_Imm.f 3).bind fun t130 => (if t130 = 7 then ((word_Ptr.f 3).bind fun t131 => (some (t131 == 6))) else (some false))) else (some false))) else (some false))) else (some false))) else (some false))
set_option maxHeartbeats 8000000 in
set_option maxRecDepth 100000 in
theorem handloomlaw01_awake.calls  (r : Bool) (w : World) (h : handloomlaw01_awake.f  = some r) :
    Calls Try.prog 16 #[] w fun e w' => e = .returned (.bool r) ∧ Drawn0 w w' := by
  have H : ((word_Wrap.f 4611686018427387904).bind fun t126 => (if t126 = (-4611686018427387904) then ((word_Do.f 3 (-7) 2).bind fun t127 => (if t127 = (-3) then ((word_Do.f 4 (-7) 2).bind fun t128 => (if t128 = (-1) then ((word_Do.f 4 5 0).bind fun t129 => (if t129 = 5 then ((word_Imm.f 3).bind fun t130 => (if t130 = 7 then ((word_Ptr.f 3).bind fun t131 => (some (t131 == 6))) else (some false))) else (some false))) else (some false))) else (some false))) else (some false))) = some r := h
  clear h
  replace H := Option.bind_eq_some_iff.mp H
  obtain ⟨t126, A10, H⟩ := H
  replace H : (if t126 = (-4611686018427387904) then ((word_Do.f 3 (-7) 2).bind fun t127 => (if t127 = (-3) then ((word_Do.f 4 (-7) 2).bind fun t128 => (if t128 = (-1) then ((word_Do.f 4 5 0).bind fun t129 => (if t129 = 5 then ((word_Imm.f 3).bind fun t130 => (if t130 = 7 then ((word_Ptr.f 3).bind fun t131 => (some (t131 == 6))) else (some false))) else (some false))) else (some false))) else (some false))) else (some false)) = some r := H
  have A1 := Aside0.mk A10
  clear A10
  by_cases c2 : t126 = (-4611686018427387904)
  · rw [if_pos c2] at H
    have c2b0 : (t126 == (-4611686018427387904)) = true := beq_iff_eq.mpr c2
    have c2b1 : (t126 != (-4611686018427387904)) = false := bne_eq_false_iff_eq.mpr c2
    clear c2
    replace H := Option.bind_eq_some_iff.mp H
    obtain ⟨t127, A30, H⟩ := H
    replace H : (if t127 = (-3) then ((word_Do.f 4 (-7) 2).bind fun t128 => (if t128 = (-1) then ((word_Do.f 4 5 0).bind fun t129 => (if t129 = 5 then ((word_Imm.f 3).bind fun t130 => (if t130 = 7 then ((word_Ptr.f 3).bind fun t131 => (some (t131 == 6))) else (some false))) else (some false))) else (some false))) else (some false)) = some r := H
    have A3 := Aside0.mk A30
    clear A30
    by_cases c4 : t127 = (-3)
    · rw [if_pos c4] at H
      have c4b0 : (t127 == (-3)) = true := beq_iff_eq.mpr c4
      have c4b1 : (t127 != (-3)) = false := bne_eq_false_iff_eq.mpr c4
      clear c4
      replace H := Option.bind_eq_some_iff.mp H
      obtain ⟨t128, A50, H⟩ := H
      replace H : (if t128 = (-1) then ((word_Do.f 4 5 0).bind fun t129 => (if t129 = 5 then ((word_Imm.f 3).bind fun t130 => (if t130 = 7 then ((word_Ptr.f 3).bind fun t131 => (some (t131 == 6))) else (some false))) else (some false))) else (some false)) = some r := H
      have A5 := Aside0.mk A50
      clear A50
      by_cases c6 : t128 = (-1)
      · rw [if_pos c6] at H
        have c6b0 : (t128 == (-1)) = true := beq_iff_eq.mpr c6
        have c6b1 : (t128 != (-1)) = false := bne_eq_false_iff_eq.mpr c6
        clear c6
        replace H := Option.bind_eq_some_iff.mp H
        obtain ⟨t129, A70, H⟩ := H
        replace H : (if t129 = 5 then ((word_Imm.f 3).bind fun t130 => (if t130 = 7 then ((word_Ptr.f 3).bind fun t131 => (some (t131 == 6))) else (some false))) else (some false)) = some r := H
        have A7 := Aside0.mk A70
        clear A70
        by_cases c8 : t129 = 5
        · rw [if_pos c8] at H
          have c8b0 : (t129 == 5) = true := beq_iff_eq.mpr c8
          have c8b1 : (t129 != 5) = false := bne_eq_false_iff_eq.mpr c8
          clear c8
          replace H := Option.bind_eq_some_iff.mp H
          obtain ⟨t130, A90, H⟩ := H
          replace H : (if t130 = 7 then ((word_Ptr.f 3).bind fun t131 => (some (t131 == 6))) else (some false)) = some r := H
          have A9 := Aside0.mk A90
          clear A90
          by_cases c10 : t130 = 7
          · rw [if_pos c10] at H
            have c10b0 : (t130 == 7) = true := beq_iff_eq.mpr c10
            have c10b1 : (t130 != 7) = false := bne_eq_false_iff_eq.mpr c10
            clear c10
            replace H := Option.bind_eq_some_iff.mp H
            obtain ⟨t131, A110, H⟩ := H
            replace H : (some (t131 == 6)) = some r := H
            have A11 := Aside0.mk A110
            clear A110
            obtain rfl := Option.some.inj H
            go_enter Try.func16, Try.ntmps16
            go_wp2_with (first | ((with_reducible refine gate_callee (f := 15) rfl ?_); refine goesL_ (some 1) rfl rfl Try.func15 (by kernel_rfl) rfl #[.int .i64 4611686018427387904] rfl (by (try simp only [List.map_toArray, List.map_cons, List.map_nil]); first | done | rfl | (simp only [List.length_drop, List.length_take]; rfl)) ?_; (with_reducible refine (word_Wrap.calls 4611686018427387904 t126 _ A1.out).mono ?_); rintro e w' ⟨rfl, ⟨nd, rfl⟩⟩; refine ⟨_, rfl, ?_⟩) | (go_at_call 13; (with_reducible refine (word_Do.calls 3 (-7) 2 t127 _ A3.out).mono ?_); rintro e w' ⟨rfl, ⟨nd, rfl⟩⟩) | (go_at_call 13; (with_reducible refine (word_Do.calls 4 (-7) 2 t128 _ A5.out).mono ?_); rintro e w' ⟨rfl, ⟨nd, rfl⟩⟩) | (go_at_call 13; (with_reducible refine (word_Do.calls 4 5 0 t129 _ A7.out).mono ?_); rintro e w' ⟨rfl, ⟨nd, rfl⟩⟩) | (go_at_call 22; (with_reducible refine (word_Imm.calls 3 t130 _ A9.out).mono ?_); rintro e w' ⟨rfl, ⟨nd, rfl⟩⟩) | (go_at_call 24; (with_reducible refine (word_Ptr.calls 3 t131 _ A11.out).mono ?_); rintro e w' ⟨rfl, ⟨nd, rfl⟩⟩))
            go_ret
            exact ⟨by first | rfl | (simp; done) | (simp [*]; done), by repeat (first | exact Drawn0.refl _ | apply Drawn0.step)⟩
          · rw [if_neg c10] at H
            have c10b0 : (t130 == 7) = false := beq_eq_false_iff_ne.mpr c10
            have c10b1 : (t130 != 7) = true := bne_iff_ne.mpr c10
            obtain rfl := Option.some.inj H
            go_enter Try.func16, Try.ntmps16
            go_wp2_with (first | ((with_reducible refine gate_callee (f := 15) rfl ?_); refine goesL_ (some 1) rfl rfl Try.func15 (by kernel_rfl) rfl #[.int .i64 4611686018427387904] rfl (by (try simp only [List.map_toArray, List.map_cons, List.map_nil]); first | done | rfl | (simp only [List.length_drop, List.length_take]; rfl)) ?_; (with_reducible refine (word_Wrap.calls 4611686018427387904 t126 _ A1.out).mono ?_); rintro e w' ⟨rfl, ⟨nd, rfl⟩⟩; refine ⟨_, rfl, ?_⟩) | (go_at_call 13; (with_reducible refine (word_Do.calls 3 (-7) 2 t127 _ A3.out).mono ?_); rintro e w' ⟨rfl, ⟨nd, rfl⟩⟩) | (go_at_call 13; (with_reducible refine (word_Do.calls 4 (-7) 2 t128 _ A5.out).mono ?_); rintro e w' ⟨rfl, ⟨nd, rfl⟩⟩) | (go_at_call 13; (with_reducible refine (word_Do.calls 4 5 0 t129 _ A7.out).mono ?_); rintro e w' ⟨rfl, ⟨nd, rfl⟩⟩) | (go_at_call 22; (with_reducible refine (word_Imm.calls 3 t130 _ A9.out).mono ?_); rintro e w' ⟨rfl, ⟨nd, rfl⟩⟩))
            go_ret
            exact ⟨by first | rfl | (simp; done) | (simp [*]; done), by repeat (first | exact Drawn0.refl _ | apply Drawn0.step)⟩
        · rw [if_neg c8] at H
          have c8b0 : (t129 == 5) = false := beq_eq_false_iff_ne.mpr c8
          have c8b1 : (t129 != 5) = true := bne_iff_ne.mpr c8
          obtain rfl := Option.some.inj H
          go_enter Try.func16, Try.ntmps16
          go_wp2_with (first | ((with_reducible refine gate_callee (f := 15) rfl ?_); refine goesL_ (some 1) rfl rfl Try.func15 (by kernel_rfl) rfl #[.int .i64 4611686018427387904] rfl (by (try simp only [List.map_toArray, List.map_cons, List.map_nil]); first | done | rfl | (simp only [List.length_drop, List.length_take]; rfl)) ?_; (with_reducible refine (word_Wrap.calls 4611686018427387904 t126 _ A1.out).mono ?_); rintro e w' ⟨rfl, ⟨nd, rfl⟩⟩; refine ⟨_, rfl, ?_⟩) | (go_at_call 13; (with_reducible refine (word_Do.calls 3 (-7) 2 t127 _ A3.out).mono ?_); rintro e w' ⟨rfl, ⟨nd, rfl⟩⟩) | (go_at_call 13; (with_reducible refine (word_Do.calls 4 (-7) 2 t128 _ A5.out).mono ?_); rintro e w' ⟨rfl, ⟨nd, rfl⟩⟩) | (go_at_call 13; (with_reducible refine (word_Do.calls 4 5 0 t129 _ A7.out).mono ?_); rintro e w' ⟨rfl, ⟨nd, rfl⟩⟩))
          go_ret
          exact ⟨by first | rfl | (simp; done) | (simp [*]; done), by repeat (first | exact Drawn0.refl _ | apply Drawn0.step)⟩
      · rw [if_neg c6] at H
        have c6b0 : (t128 == (-1)) = false := beq_eq_false_iff_ne.mpr c6
        have c6b1 : (t128 != (-1)) = true := bne_iff_ne.mpr c6
        obtain rfl := Option.some.inj H
        go_enter Try.func16, Try.ntmps16
        go_wp2_with (first | ((with_reducible refine gate_callee (f := 15) rfl ?_); refine goesL_ (some 1) rfl rfl Try.func15 (by kernel_rfl) rfl #[.int .i64 4611686018427387904] rfl (by (try simp only [List.map_toArray, List.map_cons, List.map_nil]); first | done | rfl | (simp only [List.length_drop, List.length_take]; rfl)) ?_; (with_reducible refine (word_Wrap.calls 4611686018427387904 t126 _ A1.out).mono ?_); rintro e w' ⟨rfl, ⟨nd, rfl⟩⟩; refine ⟨_, rfl, ?_⟩) | (go_at_call 13; (with_reducible refine (word_Do.calls 3 (-7) 2 t127 _ A3.out).mono ?_); rintro e w' ⟨rfl, ⟨nd, rfl⟩⟩) | (go_at_call 13; (with_reducible refine (word_Do.calls 4 (-7) 2 t128 _ A5.out).mono ?_); rintro e w' ⟨rfl, ⟨nd, rfl⟩⟩))
        go_ret
        exact ⟨by first | rfl | (simp; done) | (simp [*]; done), by repeat (first | exact Drawn0.refl _ | apply Drawn0.step)⟩
    · rw [if_neg c4] at H
      have c4b0 : (t127 == (-3)) = false := beq_eq_false_iff_ne.mpr c4
      have c4b1 : (t127 != (-3)) = true := bne_iff_ne.mpr c4
      obtain rfl := Option.some.inj H
      go_enter Try.func16, Try.ntmps16
      go_wp2_with (first | ((with_reducible refine gate_callee (f := 15) rfl ?_); refine goesL_ (some 1) rfl rfl Try.func15 (by kernel_rfl) rfl #[.int .i64 4611686018427387904] rfl (by (try simp only [List.map_toArray, List.map_cons, List.map_nil]); first | done | rfl | (simp only [List.length_drop, List.length_take]; rfl)) ?_; (with_reducible refine (word_Wrap.calls 4611686018427387904 t126 _ A1.out).mono ?_); rintro e w' ⟨rfl, ⟨nd, rfl⟩⟩; refine ⟨_, rfl, ?_⟩) | (go_at_call 13; (with_reducible refine (word_Do.calls 3 (-7) 2 t127 _ A3.out).mono ?_); rintro e w' ⟨rfl, ⟨nd, rfl⟩⟩))
      go_ret
      exact ⟨by first | rfl | (simp; done) | (simp [*]; done), by repeat (first | exact Drawn0.refl _ | apply Drawn0.step)⟩
  · rw [if_neg c2] at H
    have c2b0 : (t126 == (-4611686018427387904)) = false := beq_eq_false_iff_ne.mpr c2
    have c2b1 : (t126 != (-4611686018427387904)) = true := bne_iff_ne.mpr c2
    obtain rfl := Option.some.inj H
    go_enter Try.func16, Try.ntmps16
    go_wp2_with (first | ((with_reducible refine gate_callee (f := 15) rfl ?_); refine goesL_ (some 1) rfl rfl Try.func15 (by kernel_rfl) rfl #[.int .i64 4611686018427387904] rfl (by (try simp only [List.map_toArray, List.map_cons, List.map_nil]); first | done | rfl | (simp only [List.length_drop, List.length_take]; rfl)) ?_; (with_reducible refine (word_Wrap.calls 4611686018427387904 t126 _ A1.out).mono ?_); rintro e w' ⟨rfl, ⟨nd, rfl⟩⟩; refine ⟨_, rfl, ?_⟩))
    go_ret
    exact ⟨by first | rfl | (simp; done) | (simp [*]; done), by repeat (first | exact Drawn0.refl _ | apply Drawn0.step)⟩

/-! ### handloomlaw01_WordRing: function 3 -/
def handloomlaw01_WordRing.j0 : Nat → Int → Int → Int → Bool → Option (Bool)
  | 0, _, _, _, _ => none
  | k + 1, x0, x1, x2, x63 => if x63 = true then (some false) else ((handloomlaw01_WordRing_1.f x0 x1).bind fun t142 => ((handloomlaw01_WordRing_2.f t142 x2).bind fun t143 => ((handloomlaw01_WordRing_2.f x0 x2).bind fun t144 => ((handloomlaw01_WordRing_2.f x1 x2).bind fun t145 => ((handloomlaw01_WordRing_1.f t144 t145).bind fun t146 => (if t143 = t146 then ((word_Do.f 1 t142 x1).bind fun t147 => ((word_Wrap.f x0).bind fun t148 => (if t147 = t148 then (if t142 ≥ (-4611686018427387904) then (if t142 < 4611686018427387904 then ((handloomlaw01_WordRing_2.f x0 1).bind fun t149 => (if t149 = t148 then ((handloomlaw01_awake.f).bind fun t150 => (some t150)) else (some false))) else (some false)) else (some false)) else (some false)))) else (some false)))))))
def handloomlaw01_WordRing.f (k : Nat) (a0 : Int) (a1 : Int) (a2 : Int) : Option (Bool) := (handloomlaw01_WordRing_1.f a0 a1).bind fun t132 => ((handloomlaw01_WordRing_1.f a1 a0).bind fun t133 => (if t132 = t133 then ((handloomlaw01_WordRing_2.f a0 a1).bind fun t134 => ((handloomlaw01_WordRing_2.f a1 a0).bind fun t135 => (if t134 = t135 then ((handloomlaw01_WordRing_1.f t132 a2).bind fun t136 => ((handloomlaw01_WordRing_1.f a1 a2).bind fun t137 => ((handloomlaw01_WordRing_1.f a0 t137).bind fun t138 => (if t136 = t138 then ((handloomlaw01_WordRing_2.f t134 a2).bind fun t139 => ((handloomlaw01_WordRing_2.f a1 a2).bind fun t140 => ((handloomlaw01_WordRing_2.f a0 t140).bind fun t141 => (handloomlaw01_WordRing.j0 k a0 a1 a2 (t139 != t141))))) else (handloomlaw01_WordRing.j0 k a0 a1 a2 true))))) else (handloomlaw01_WordRing.j0 k a0 a1 a2 true)))) else (handloomlaw01_WordRing.j0 k a0 a1 a2 true)))
theorem handloomlaw01_WordRing.mono_l : ∀ k, (∀ y0 y1 y2 y3, LeO (handloomlaw01_WordRing.j0 k y0 y1 y2 y3) (handloomlaw01_WordRing.j0 (k + 1) y0 y1 y2 y3))
  | 0 => fun _ _ _ _ r h => by simp [handloomlaw01_WordRing.j0] at h
  | k + 1 => by
    have ih0 := handloomlaw01_WordRing.mono_l k
    · intro y0 y1 y2 y3
      unfold handloomlaw01_WordRing.j0
      repeat' first
      | (with_reducible exact ih0 _ _ _ _)
      | (with_reducible exact LeO.refl _)
      | (with_reducible exact LeO.none _)
      | (with_reducible refine LeO.ite ?_ ?_)
      | (with_reducible refine LeO.bind ?_ (fun _ => ?_))
      | exact ih0 _ _ _ _
      | exact LeO.none _
      | refine LeO.ite ?_ ?_
      | refine LeO.bind ?_ (fun _ => ?_)
theorem handloomlaw01_WordRing.mono : ∀ a0 a1 a2 k, LeO (handloomlaw01_WordRing.f k a0 a1 a2) (handloomlaw01_WordRing.f (k + 1) a0 a1 a2) := by
  intro a0 a1 a2 k
  have ih0 := handloomlaw01_WordRing.mono_l k
  unfold handloomlaw01_WordRing.f
  repeat' first
      | (with_reducible exact ih0 _ _ _ _)
      | (with_reducible exact LeO.refl _)
      | (with_reducible exact LeO.none _)
      | (with_reducible refine LeO.ite ?_ ?_)
      | (with_reducible refine LeO.bind ?_ (fun _ => ?_))
      | exact ih0 _ _ _ _
      | exact LeO.none _
      | refine LeO.ite ?_ ?_
      | refine LeO.bind ?_ (fun _ => ?_)
set_option maxHeartbeats 8000000 in
set_option maxRecDepth 100000 in
theorem handloomlaw01_WordRing.calls (k : Nat) (a0 : Int) (a1 : Int) (a2 : Int) (r : Bool) (w : World) (h : handloomlaw01_WordRing.f k a0 a1 a2 = some r) :
    Calls Try.prog 3 #[.int .i64 a0, .int .i64 a1, .int .i64 a2] w fun e w' => e = .returned (.bool r) ∧ Drawn0 w w' := by
  have H : ((handloomlaw01_WordRing_1.f a0 a1).bind fun t132 => ((handloomlaw01_WordRing_1.f a1 a0).bind fun t133 => (if t132 = t133 then ((handloomlaw01_WordRing_2.f a0 a1).bind fun t134 => ((handloomlaw01_WordRing_2.f a1 a0).bind fun t135 => (if t134 = t135 then ((handloomlaw01_WordRing_1.f t132 a2).bind fun t136 => ((handloomlaw01_WordRing_1.f a1 a2).bind fun t137 => ((handloomlaw01_WordRing_1.f a0 t137).bind fun t138 => (if t136 = t138 then ((handloomlaw01_WordRing_2.f t134 a2).bind fun t139 => ((handloomlaw01_WordRing_2.f a1 a2).bind fun t140 => ((handloomlaw01_WordRing_2.f a0 t140).bind fun t141 => (handloomlaw01_WordRing.j0 k a0 a1 a2 (t139 != t141))))) else (handloomlaw01_WordRing.j0 k a0 a1 a2 true))))) else (handloomlaw01_WordRing.j0 k a0 a1 a2 true)))) else (handloomlaw01_WordRing.j0 k a0 a1 a2 true)))) = some r := h
  clear h
  have HC4 := Aside0.mk H
  clear H
  go_enter Try.func3, Try.ntmps3
  go_upto_region 3 with (fail)
  go_cut [63] (fun v63 wc => ∃ (kq : Nat) (x63_3 : Bool), v63 = .bool x63_3 ∧ Aside0 (handloomlaw01_WordRing.j0 kq a0 a1 a2 x63_3 = some r) ∧ Aside0 (kq ≤ k) ∧ Drawn0 w wc)
  case first =>
    have H := HC4.out
    clear HC4
    replace H := Option.bind_eq_some_iff.mp H
    obtain ⟨t132, A50, H⟩ := H
    replace H : ((handloomlaw01_WordRing_1.f a1 a0).bind fun t133 => (if t132 = t133 then ((handloomlaw01_WordRing_2.f a0 a1).bind fun t134 => ((handloomlaw01_WordRing_2.f a1 a0).bind fun t135 => (if t134 = t135 then ((handloomlaw01_WordRing_1.f t132 a2).bind fun t136 => ((handloomlaw01_WordRing_1.f a1 a2).bind fun t137 => ((handloomlaw01_WordRing_1.f a0 t137).bind fun t138 => (if t136 = t138 then ((handloomlaw01_WordRing_2.f t134 a2).bind fun t139 => ((handloomlaw01_WordRing_2.f a1 a2).bind fun t140 => ((handloomlaw01_WordRing_2.f a0 t140).bind fun t141 => (handloomlaw01_WordRing.j0 k a0 a1 a2 (t139 != t141))))) else (handloomlaw01_WordRing.j0 k a0 a1 a2 true))))) else (handloomlaw01_WordRing.j0 k a0 a1 a2 true)))) else (handloomlaw01_WordRing.j0 k a0 a1 a2 true))) = some r := H
    have A5 := Aside0.mk A50
    clear A50
    replace H := Option.bind_eq_some_iff.mp H
    obtain ⟨t133, A60, H⟩ := H
    replace H : (if t132 = t133 then ((handloomlaw01_WordRing_2.f a0 a1).bind fun t134 => ((handloomlaw01_WordRing_2.f a1 a0).bind fun t135 => (if t134 = t135 then ((handloomlaw01_WordRing_1.f t132 a2).bind fun t136 => ((handloomlaw01_WordRing_1.f a1 a2).bind fun t137 => ((handloomlaw01_WordRing_1.f a0 t137).bind fun t138 => (if t136 = t138 then ((handloomlaw01_WordRing_2.f t134 a2).bind fun t139 => ((handloomlaw01_WordRing_2.f a1 a2).bind fun t140 => ((handloomlaw01_WordRing_2.f a0 t140).bind fun t141 => (handloomlaw01_WordRing.j0 k a0 a1 a2 (t139 != t141))))) else (handloomlaw01_WordRing.j0 k a0 a1 a2 true))))) else (handloomlaw01_WordRing.j0 k a0 a1 a2 true)))) else (handloomlaw01_WordRing.j0 k a0 a1 a2 true)) = some r := H
    have A6 := Aside0.mk A60
    clear A60
    by_cases c7 : t132 = t133
    · rw [if_pos c7] at H
      have c7b0 : (t132 == t133) = true := beq_iff_eq.mpr c7
      have c7b1 : (t132 != t133) = false := bne_eq_false_iff_eq.mpr c7
      clear c7
      (first | rw [c7b0] | (simp only [i64_w, i32_w]; rw [c7b0]) | skip)
      replace H := Option.bind_eq_some_iff.mp H
      obtain ⟨t134, A80, H⟩ := H
      replace H : ((handloomlaw01_WordRing_2.f a1 a0).bind fun t135 => (if t134 = t135 then ((handloomlaw01_WordRing_1.f t132 a2).bind fun t136 => ((handloomlaw01_WordRing_1.f a1 a2).bind fun t137 => ((handloomlaw01_WordRing_1.f a0 t137).bind fun t138 => (if t136 = t138 then ((handloomlaw01_WordRing_2.f t134 a2).bind fun t139 => ((handloomlaw01_WordRing_2.f a1 a2).bind fun t140 => ((handloomlaw01_WordRing_2.f a0 t140).bind fun t141 => (handloomlaw01_WordRing.j0 k a0 a1 a2 (t139 != t141))))) else (handloomlaw01_WordRing.j0 k a0 a1 a2 true))))) else (handloomlaw01_WordRing.j0 k a0 a1 a2 true))) = some r := H
      have A8 := Aside0.mk A80
      clear A80
      replace H := Option.bind_eq_some_iff.mp H
      obtain ⟨t135, A90, H⟩ := H
      replace H : (if t134 = t135 then ((handloomlaw01_WordRing_1.f t132 a2).bind fun t136 => ((handloomlaw01_WordRing_1.f a1 a2).bind fun t137 => ((handloomlaw01_WordRing_1.f a0 t137).bind fun t138 => (if t136 = t138 then ((handloomlaw01_WordRing_2.f t134 a2).bind fun t139 => ((handloomlaw01_WordRing_2.f a1 a2).bind fun t140 => ((handloomlaw01_WordRing_2.f a0 t140).bind fun t141 => (handloomlaw01_WordRing.j0 k a0 a1 a2 (t139 != t141))))) else (handloomlaw01_WordRing.j0 k a0 a1 a2 true))))) else (handloomlaw01_WordRing.j0 k a0 a1 a2 true)) = some r := H
      have A9 := Aside0.mk A90
      clear A90
      by_cases c10 : t134 = t135
      · rw [if_pos c10] at H
        have c10b0 : (t134 == t135) = true := beq_iff_eq.mpr c10
        have c10b1 : (t134 != t135) = false := bne_eq_false_iff_eq.mpr c10
        clear c10
        replace H := Option.bind_eq_some_iff.mp H
        obtain ⟨t136, A110, H⟩ := H
        replace H : ((handloomlaw01_WordRing_1.f a1 a2).bind fun t137 => ((handloomlaw01_WordRing_1.f a0 t137).bind fun t138 => (if t136 = t138 then ((handloomlaw01_WordRing_2.f t134 a2).bind fun t139 => ((handloomlaw01_WordRing_2.f a1 a2).bind fun t140 => ((handloomlaw01_WordRing_2.f a0 t140).bind fun t141 => (handloomlaw01_WordRing.j0 k a0 a1 a2 (t139 != t141))))) else (handloomlaw01_WordRing.j0 k a0 a1 a2 true)))) = some r := H
        have A11 := Aside0.mk A110
        clear A110
        replace H := Option.bind_eq_some_iff.mp H
        obtain ⟨t137, A120, H⟩ := H
        replace H : ((handloomlaw01_WordRing_1.f a0 t137).bind fun t138 => (if t136 = t138 then ((handloomlaw01_WordRing_2.f t134 a2).bind fun t139 => ((handloomlaw01_WordRing_2.f a1 a2).bind fun t140 => ((handloomlaw01_WordRing_2.f a0 t140).bind fun t141 => (handloomlaw01_WordRing.j0 k a0 a1 a2 (t139 != t141))))) else (handloomlaw01_WordRing.j0 k a0 a1 a2 true))) = some r := H
        have A12 := Aside0.mk A120
        clear A120
        replace H := Option.bind_eq_some_iff.mp H
        obtain ⟨t138, A130, H⟩ := H
        replace H : (if t136 = t138 then ((handloomlaw01_WordRing_2.f t134 a2).bind fun t139 => ((handloomlaw01_WordRing_2.f a1 a2).bind fun t140 => ((handloomlaw01_WordRing_2.f a0 t140).bind fun t141 => (handloomlaw01_WordRing.j0 k a0 a1 a2 (t139 != t141))))) else (handloomlaw01_WordRing.j0 k a0 a1 a2 true)) = some r := H
        have A13 := Aside0.mk A130
        clear A130
        by_cases c14 : t136 = t138
        · rw [if_pos c14] at H
          have c14b0 : (t136 == t138) = true := beq_iff_eq.mpr c14
          have c14b1 : (t136 != t138) = false := bne_eq_false_iff_eq.mpr c14
          clear c14
          replace H := Option.bind_eq_some_iff.mp H
          obtain ⟨t139, A150, H⟩ := H
          replace H : ((handloomlaw01_WordRing_2.f a1 a2).bind fun t140 => ((handloomlaw01_WordRing_2.f a0 t140).bind fun t141 => (handloomlaw01_WordRing.j0 k a0 a1 a2 (t139 != t141)))) = some r := H
          have A15 := Aside0.mk A150
          clear A150
          replace H := Option.bind_eq_some_iff.mp H
          obtain ⟨t140, A160, H⟩ := H
          replace H : ((handloomlaw01_WordRing_2.f a0 t140).bind fun t141 => (handloomlaw01_WordRing.j0 k a0 a1 a2 (t139 != t141))) = some r := H
          have A16 := Aside0.mk A160
          clear A160
          replace H := Option.bind_eq_some_iff.mp H
          obtain ⟨t141, A170, H⟩ := H
          replace H : (handloomlaw01_WordRing.j0 k a0 a1 a2 (t139 != t141)) = some r := H
          have A17 := Aside0.mk A170
          clear A170
          have H' := Aside0.mk H
          clear H
          go_wp2_with (first | ((with_reducible refine gate_value (x := .tmp 10) rfl ?_); refine goesV_ (some 13) rfl rfl Try.func12 (by kernel_rfl) rfl #[.int .i64 a0, .int .i64 a1] rfl rfl (by (try simp only [List.map_toArray, List.map_cons, List.map_nil]); first | done | rfl | (simp only [List.length_drop, List.length_take]; rfl)) ?_; (with_reducible refine (handloomlaw01_WordRing_1.calls a0 a1 t132 _ A5.out).mono ?_); rintro e w' ⟨rfl, ⟨nd, rfl⟩⟩; refine ⟨_, rfl, ?_⟩) | ((with_reducible refine gate_value (x := .tmp 14) rfl ?_); refine goesV_ (some 17) rfl rfl Try.func12 (by kernel_rfl) rfl #[.int .i64 a1, .int .i64 a0] rfl rfl (by (try simp only [List.map_toArray, List.map_cons, List.map_nil]); first | done | rfl | (simp only [List.length_drop, List.length_take]; rfl)) ?_; (with_reducible refine (handloomlaw01_WordRing_1.calls a1 a0 t133 _ A6.out).mono ?_); rintro e w' ⟨rfl, ⟨nd, rfl⟩⟩; refine ⟨_, rfl, ?_⟩) | (go_at_call 14; (with_reducible refine (handloomlaw01_WordRing_2.calls a0 a1 t134 _ A8.out).mono ?_); rintro e w' ⟨rfl, ⟨nd, rfl⟩⟩) | (go_at_call 14; (with_reducible refine (handloomlaw01_WordRing_2.calls a1 a0 t135 _ A9.out).mono ?_); rintro e w' ⟨rfl, ⟨nd, rfl⟩⟩) | (go_at_call 12; (with_reducible refine (handloomlaw01_WordRing_1.calls a0 a1 t132 _ A5.out).mono ?_); rintro e w' ⟨rfl, ⟨nd, rfl⟩⟩) | (go_at_call 12; (with_reducible refine (handloomlaw01_WordRing_1.calls t132 a2 t136 _ A11.out).mono ?_); rintro e w' ⟨rfl, ⟨nd, rfl⟩⟩) | (go_at_call 12; (with_reducible refine (handloomlaw01_WordRing_1.calls a1 a2 t137 _ A12.out).mono ?_); rintro e w' ⟨rfl, ⟨nd, rfl⟩⟩) | (go_at_call 12; (with_reducible refine (handloomlaw01_WordRing_1.calls a0 t137 t138 _ A13.out).mono ?_); rintro e w' ⟨rfl, ⟨nd, rfl⟩⟩) | (go_at_call 14; (with_reducible refine (handloomlaw01_WordRing_2.calls a0 a1 t134 _ A8.out).mono ?_); rintro e w' ⟨rfl, ⟨nd, rfl⟩⟩) | (go_at_call 14; (with_reducible refine (handloomlaw01_WordRing_2.calls t134 a2 t139 _ A15.out).mono ?_); rintro e w' ⟨rfl, ⟨nd, rfl⟩⟩) | (go_at_call 14; (with_reducible refine (handloomlaw01_WordRing_2.calls a1 a2 t140 _ A16.out).mono ?_); rintro e w' ⟨rfl, ⟨nd, rfl⟩⟩) | (go_at_call 14; (with_reducible refine (handloomlaw01_WordRing_2.calls a0 t140 t141 _ A17.out).mono ?_); rintro e w' ⟨rfl, ⟨nd, rfl⟩⟩))
          go_meet
          case rel => exact ⟨_, ((t139 != t141)), (by first | rfl | (simp; done) | (simp [*]; done)), H', ⟨by first | omega | exact Nat.le_refl _⟩, by repeat (first | exact Drawn0.refl _ | apply Drawn0.step)⟩
        · rw [if_neg c14] at H
          have c14b0 : (t136 == t138) = false := beq_eq_false_iff_ne.mpr c14
          have c14b1 : (t136 != t138) = true := bne_iff_ne.mpr c14
          have H' := Aside0.mk H
          clear H
          go_wp2_with (first | ((with_reducible refine gate_value (x := .tmp 10) rfl ?_); refine goesV_ (some 13) rfl rfl Try.func12 (by kernel_rfl) rfl #[.int .i64 a0, .int .i64 a1] rfl rfl (by (try simp only [List.map_toArray, List.map_cons, List.map_nil]); first | done | rfl | (simp only [List.length_drop, List.length_take]; rfl)) ?_; (with_reducible refine (handloomlaw01_WordRing_1.calls a0 a1 t132 _ A5.out).mono ?_); rintro e w' ⟨rfl, ⟨nd, rfl⟩⟩; refine ⟨_, rfl, ?_⟩) | ((with_reducible refine gate_value (x := .tmp 14) rfl ?_); refine goesV_ (some 17) rfl rfl Try.func12 (by kernel_rfl) rfl #[.int .i64 a1, .int .i64 a0] rfl rfl (by (try simp only [List.map_toArray, List.map_cons, List.map_nil]); first | done | rfl | (simp only [List.length_drop, List.length_take]; rfl)) ?_; (with_reducible refine (handloomlaw01_WordRing_1.calls a1 a0 t133 _ A6.out).mono ?_); rintro e w' ⟨rfl, ⟨nd, rfl⟩⟩; refine ⟨_, rfl, ?_⟩) | (go_at_call 14; (with_reducible refine (handloomlaw01_WordRing_2.calls a0 a1 t134 _ A8.out).mono ?_); rintro e w' ⟨rfl, ⟨nd, rfl⟩⟩) | (go_at_call 14; (with_reducible refine (handloomlaw01_WordRing_2.calls a1 a0 t135 _ A9.out).mono ?_); rintro e w' ⟨rfl, ⟨nd, rfl⟩⟩) | (go_at_call 12; (with_reducible refine (handloomlaw01_WordRing_1.calls a0 a1 t132 _ A5.out).mono ?_); rintro e w' ⟨rfl, ⟨nd, rfl⟩⟩) | (go_at_call 12; (with_reducible refine (handloomlaw01_WordRing_1.calls t132 a2 t136 _ A11.out).mono ?_); rintro e w' ⟨rfl, ⟨nd, rfl⟩⟩) | (go_at_call 12; (with_reducible refine (handloomlaw01_WordRing_1.calls a1 a2 t137 _ A12.out).mono ?_); rintro e w' ⟨rfl, ⟨nd, rfl⟩⟩) | (go_at_call 12; (with_reducible refine (handloomlaw01_WordRing_1.calls a0 t137 t138 _ A13.out).mono ?_); rintro e w' ⟨rfl, ⟨nd, rfl⟩⟩))
          go_meet
          case rel => exact ⟨_, (true), (by first | rfl | (simp; done) | (simp [*]; done)), H', ⟨by first | omega | exact Nat.le_refl _⟩, by repeat (first | exact Drawn0.refl _ | apply Drawn0.step)⟩
      · rw [if_neg c10] at H
        have c10b0 : (t134 == t135) = false := beq_eq_false_iff_ne.mpr c10
        have c10b1 : (t134 != t135) = true := bne_iff_ne.mpr c10
        have H' := Aside0.mk H
        clear H
        go_wp2_with (first | ((with_reducible refine gate_value (x := .tmp 10) rfl ?_); refine goesV_ (some 13) rfl rfl Try.func12 (by kernel_rfl) rfl #[.int .i64 a0, .int .i64 a1] rfl rfl (by (try simp only [List.map_toArray, List.map_cons, List.map_nil]); first | done | rfl | (simp only [List.length_drop, List.length_take]; rfl)) ?_; (with_reducible refine (handloomlaw01_WordRing_1.calls a0 a1 t132 _ A5.out).mono ?_); rintro e w' ⟨rfl, ⟨nd, rfl⟩⟩; refine ⟨_, rfl, ?_⟩) | ((with_reducible refine gate_value (x := .tmp 14) rfl ?_); refine goesV_ (some 17) rfl rfl Try.func12 (by kernel_rfl) rfl #[.int .i64 a1, .int .i64 a0] rfl rfl (by (try simp only [List.map_toArray, List.map_cons, List.map_nil]); first | done | rfl | (simp only [List.length_drop, List.length_take]; rfl)) ?_; (with_reducible refine (handloomlaw01_WordRing_1.calls a1 a0 t133 _ A6.out).mono ?_); rintro e w' ⟨rfl, ⟨nd, rfl⟩⟩; refine ⟨_, rfl, ?_⟩) | (go_at_call 14; (with_reducible refine (handloomlaw01_WordRing_2.calls a0 a1 t134 _ A8.out).mono ?_); rintro e w' ⟨rfl, ⟨nd, rfl⟩⟩) | (go_at_call 14; (with_reducible refine (handloomlaw01_WordRing_2.calls a1 a0 t135 _ A9.out).mono ?_); rintro e w' ⟨rfl, ⟨nd, rfl⟩⟩))
        go_meet
        case rel => exact ⟨_, (true), (by first | rfl | (simp; done) | (simp [*]; done)), H', ⟨by first | omega | exact Nat.le_refl _⟩, by repeat (first | exact Drawn0.refl _ | apply Drawn0.step)⟩
    · rw [if_neg c7] at H
      have c7b0 : (t132 == t133) = false := beq_eq_false_iff_ne.mpr c7
      have c7b1 : (t132 != t133) = true := bne_iff_ne.mpr c7
      (first | rw [c7b0] | (simp only [i64_w, i32_w]; rw [c7b0]) | skip)
      have H' := Aside0.mk H
      clear H
      go_wp2_with (first | ((with_reducible refine gate_value (x := .tmp 10) rfl ?_); refine goesV_ (some 13) rfl rfl Try.func12 (by kernel_rfl) rfl #[.int .i64 a0, .int .i64 a1] rfl rfl (by (try simp only [List.map_toArray, List.map_cons, List.map_nil]); first | done | rfl | (simp only [List.length_drop, List.length_take]; rfl)) ?_; (with_reducible refine (handloomlaw01_WordRing_1.calls a0 a1 t132 _ A5.out).mono ?_); rintro e w' ⟨rfl, ⟨nd, rfl⟩⟩; refine ⟨_, rfl, ?_⟩) | ((with_reducible refine gate_value (x := .tmp 14) rfl ?_); refine goesV_ (some 17) rfl rfl Try.func12 (by kernel_rfl) rfl #[.int .i64 a1, .int .i64 a0] rfl rfl (by (try simp only [List.map_toArray, List.map_cons, List.map_nil]); first | done | rfl | (simp only [List.length_drop, List.length_take]; rfl)) ?_; (with_reducible refine (handloomlaw01_WordRing_1.calls a1 a0 t133 _ A6.out).mono ?_); rintro e w' ⟨rfl, ⟨nd, rfl⟩⟩; refine ⟨_, rfl, ?_⟩))
      go_meet
      case rel => exact ⟨_, (true), (by first | rfl | (simp; done) | (simp [*]; done)), H', ⟨by first | omega | exact Nat.le_refl _⟩, by repeat (first | exact Drawn0.refl _ | apply Drawn0.step)⟩
  case rest =>
    clear HC4
    try clear c1
    try clear p2
    try clear c3
    try clear c7
    try clear c7b0
    try clear c7b1
    try clear c10
    try clear c10b0
    try clear c10b1
    try clear c12
    try clear c14
    try clear c14b0
    try clear c14b1
    obtain ⟨kq, x63_3, rfl, HA, HJ3, ⟨mc3, rfl⟩⟩ := hcut
    cases kq with
    | zero => exact absurd HA.out (by simp [handloomlaw01_WordRing.j0])
    | succ kj3 =>
      have H := HA.out
      clear HA
      simp only [handloomlaw01_WordRing.j0] at H
      by_cases c18 : x63_3 = true
      · subst c18
        have H1 : (some false) = some r := by rw [if_pos rfl] at H; exact H
        clear H
        have H := H1
        clear H1
        obtain rfl := Option.some.inj H
        go_wp2
        go_ret
        exact ⟨by first | rfl | (simp; done) | (simp [*]; done), by repeat (first | exact Drawn0.refl _ | apply Drawn0.step)⟩
      · replace c18 := Bool.eq_false_iff.mpr c18
        subst c18
        have H1 : ((handloomlaw01_WordRing_1.f a0 a1).bind fun t142 => ((handloomlaw01_WordRing_2.f t142 a2).bind fun t143 => ((handloomlaw01_WordRing_2.f a0 a2).bind fun t144 => ((handloomlaw01_WordRing_2.f a1 a2).bind fun t145 => ((handloomlaw01_WordRing_1.f t144 t145).bind fun t146 => (if t143 = t146 then ((word_Do.f 1 t142 a1).bind fun t147 => ((word_Wrap.f a0).bind fun t148 => (if t147 = t148 then (if t142 ≥ (-4611686018427387904) then (if t142 < 4611686018427387904 then ((handloomlaw01_WordRing_2.f a0 1).bind fun t149 => (if t149 = t148 then ((handloomlaw01_awake.f).bind fun t150 => (some t150)) else (some false))) else (some false)) else (some false)) else (some false)))) else (some false))))))) = some r := by rw [if_neg (show ¬ (false = true) by decide)] at H; exact H
        clear H
        have H := H1
        clear H1
        replace H := Option.bind_eq_some_iff.mp H
        obtain ⟨t142, A190, H⟩ := H
        replace H : ((handloomlaw01_WordRing_2.f t142 a2).bind fun t143 => ((handloomlaw01_WordRing_2.f a0 a2).bind fun t144 => ((handloomlaw01_WordRing_2.f a1 a2).bind fun t145 => ((handloomlaw01_WordRing_1.f t144 t145).bind fun t146 => (if t143 = t146 then ((word_Do.f 1 t142 a1).bind fun t147 => ((word_Wrap.f a0).bind fun t148 => (if t147 = t148 then (if t142 ≥ (-4611686018427387904) then (if t142 < 4611686018427387904 then ((handloomlaw01_WordRing_2.f a0 1).bind fun t149 => (if t149 = t148 then ((handloomlaw01_awake.f).bind fun t150 => (some t150)) else (some false))) else (some false)) else (some false)) else (some false)))) else (some false)))))) = some r := H
        have A19 := Aside0.mk A190
        clear A190
        replace H := Option.bind_eq_some_iff.mp H
        obtain ⟨t143, A200, H⟩ := H
        replace H : ((handloomlaw01_WordRing_2.f a0 a2).bind fun t144 => ((handloomlaw01_WordRing_2.f a1 a2).bind fun t145 => ((handloomlaw01_WordRing_1.f t144 t145).bind fun t146 => (if t143 = t146 then ((word_Do.f 1 t142 a1).bind fun t147 => ((word_Wrap.f a0).bind fun t148 => (if t147 = t148 then (if t142 ≥ (-4611686018427387904) then (if t142 < 4611686018427387904 then ((handloomlaw01_WordRing_2.f a0 1).bind fun t149 => (if t149 = t148 then ((handloomlaw01_awake.f).bind fun t150 => (some t150)) else (some false))) else (some false)) else (some false)) else (some false)))) else (some false))))) = some r := H
        have A20 := Aside0.mk A200
        clear A200
        replace H := Option.bind_eq_some_iff.mp H
        obtain ⟨t144, A210, H⟩ := H
        replace H : ((handloomlaw01_WordRing_2.f a1 a2).bind fun t145 => ((handloomlaw01_WordRing_1.f t144 t145).bind fun t146 => (if t143 = t146 then ((word_Do.f 1 t142 a1).bind fun t147 => ((word_Wrap.f a0).bind fun t148 => (if t147 = t148 then (if t142 ≥ (-4611686018427387904) then (if t142 < 4611686018427387904 then ((handloomlaw01_WordRing_2.f a0 1).bind fun t149 => (if t149 = t148 then ((handloomlaw01_awake.f).bind fun t150 => (some t150)) else (some false))) else (some false)) else (some false)) else (some false)))) else (some false)))) = some r := H
        have A21 := Aside0.mk A210
        clear A210
        replace H := Option.bind_eq_some_iff.mp H
        obtain ⟨t145, A220, H⟩ := H
        replace H : ((handloomlaw01_WordRing_1.f t144 t145).bind fun t146 => (if t143 = t146 then ((word_Do.f 1 t142 a1).bind fun t147 => ((word_Wrap.f a0).bind fun t148 => (if t147 = t148 then (if t142 ≥ (-4611686018427387904) then (if t142 < 4611686018427387904 then ((handloomlaw01_WordRing_2.f a0 1).bind fun t149 => (if t149 = t148 then ((handloomlaw01_awake.f).bind fun t150 => (some t150)) else (some false))) else (some false)) else (some false)) else (some false)))) else (some false))) = some r := H
        have A22 := Aside0.mk A220
        clear A220
        replace H := Option.bind_eq_some_iff.mp H
        obtain ⟨t146, A230, H⟩ := H
        replace H : (if t143 = t146 then ((word_Do.f 1 t142 a1).bind fun t147 => ((word_Wrap.f a0).bind fun t148 => (if t147 = t148 then (if t142 ≥ (-4611686018427387904) then (if t142 < 4611686018427387904 then ((handloomlaw01_WordRing_2.f a0 1).bind fun t149 => (if t149 = t148 then ((handloomlaw01_awake.f).bind fun t150 => (some t150)) else (some false))) else (some false)) else (some false)) else (some false)))) else (some false)) = some r := H
        have A23 := Aside0.mk A230
        clear A230
        by_cases c24 : t143 = t146
        · rw [if_pos c24] at H
          have c24b0 : (t143 == t146) = true := beq_iff_eq.mpr c24
          have c24b1 : (t143 != t146) = false := bne_eq_false_iff_eq.mpr c24
          clear c24
          replace H := Option.bind_eq_some_iff.mp H
          obtain ⟨t147, A250, H⟩ := H
          replace H : ((word_Wrap.f a0).bind fun t148 => (if t147 = t148 then (if t142 ≥ (-4611686018427387904) then (if t142 < 4611686018427387904 then ((handloomlaw01_WordRing_2.f a0 1).bind fun t149 => (if t149 = t148 then ((handloomlaw01_awake.f).bind fun t150 => (some t150)) else (some false))) else (some false)) else (some false)) else (some false))) = some r := H
          have A25 := Aside0.mk A250
          clear A250
          replace H := Option.bind_eq_some_iff.mp H
          obtain ⟨t148, A260, H⟩ := H
          replace H : (if t147 = t148 then (if t142 ≥ (-4611686018427387904) then (if t142 < 4611686018427387904 then ((handloomlaw01_WordRing_2.f a0 1).bind fun t149 => (if t149 = t148 then ((handloomlaw01_awake.f).bind fun t150 => (some t150)) else (some false))) else (some false)) else (some false)) else (some false)) = some r := H
          have A26 := Aside0.mk A260
          clear A260
          by_cases c27 : t147 = t148
          · rw [if_pos c27] at H
            have c27b0 : (t147 == t148) = true := beq_iff_eq.mpr c27
            have c27b1 : (t147 != t148) = false := bne_eq_false_iff_eq.mpr c27
            clear c27
            by_cases c28 : t142 ≥ (-4611686018427387904)
            · rw [if_pos c28] at H
              have c28b0 : decide ((-4611686018427387904) ≤ t142) = true := decide_eq_true c28
              clear c28
              by_cases c29 : t142 < 4611686018427387904
              · rw [if_pos c29] at H
                have c29b0 : decide (t142 < 4611686018427387904) = true := decide_eq_true c29
                clear c29
                replace H := Option.bind_eq_some_iff.mp H
                obtain ⟨t149, A300, H⟩ := H
                replace H : (if t149 = t148 then ((handloomlaw01_awake.f).bind fun t150 => (some t150)) else (some false)) = some r := H
                have A30 := Aside0.mk A300
                clear A300
                by_cases c31 : t149 = t148
                · rw [if_pos c31] at H
                  have c31b0 : (t149 == t148) = true := beq_iff_eq.mpr c31
                  have c31b1 : (t149 != t148) = false := bne_eq_false_iff_eq.mpr c31
                  clear c31
                  replace H := Option.bind_eq_some_iff.mp H
                  obtain ⟨t150, A320, H⟩ := H
                  replace H : (some t150) = some r := H
                  have A32 := Aside0.mk A320
                  clear A320
                  obtain rfl := Option.some.inj H
                  go_wp2_with (first | ((with_reducible refine gate_value (x := .tmp 64) rfl ?_); refine goesV_ (some 67) rfl rfl Try.func12 (by kernel_rfl) rfl #[.int .i64 a0, .int .i64 a1] rfl rfl (by (try simp only [List.map_toArray, List.map_cons, List.map_nil]); first | done | rfl | (simp only [List.length_drop, List.length_take]; rfl)) ?_; (with_reducible refine (handloomlaw01_WordRing_1.calls a0 a1 t142 _ A19.out).mono ?_); rintro e w' ⟨rfl, ⟨nd, rfl⟩⟩; refine ⟨_, rfl, ?_⟩) | ((with_reducible refine gate_value (x := .tmp 68) rfl ?_); refine goesV_ (some 71) rfl rfl Try.func14 (by kernel_rfl) rfl #[.int .i64 t142, .int .i64 a2] rfl rfl (by (try simp only [List.map_toArray, List.map_cons, List.map_nil]); first | done | rfl | (simp only [List.length_drop, List.length_take]; rfl)) ?_; (with_reducible refine (handloomlaw01_WordRing_2.calls t142 a2 t143 _ A20.out).mono ?_); rintro e w' ⟨rfl, ⟨nd, rfl⟩⟩; refine ⟨_, rfl, ?_⟩) | ((with_reducible refine gate_value (x := .tmp 73) rfl ?_); refine goesV_ (some 76) rfl rfl Try.func14 (by kernel_rfl) rfl #[.int .i64 a0, .int .i64 a2] rfl rfl (by (try simp only [List.map_toArray, List.map_cons, List.map_nil]); first | done | rfl | (simp only [List.length_drop, List.length_take]; rfl)) ?_; (with_reducible refine (handloomlaw01_WordRing_2.calls a0 a2 t144 _ A21.out).mono ?_); rintro e w' ⟨rfl, ⟨nd, rfl⟩⟩; refine ⟨_, rfl, ?_⟩) | ((with_reducible refine gate_value (x := .tmp 77) rfl ?_); refine goesV_ (some 80) rfl rfl Try.func14 (by kernel_rfl) rfl #[.int .i64 a1, .int .i64 a2] rfl rfl (by (try simp only [List.map_toArray, List.map_cons, List.map_nil]); first | done | rfl | (simp only [List.length_drop, List.length_take]; rfl)) ?_; (with_reducible refine (handloomlaw01_WordRing_2.calls a1 a2 t145 _ A22.out).mono ?_); rintro e w' ⟨rfl, ⟨nd, rfl⟩⟩; refine ⟨_, rfl, ?_⟩) | ((with_reducible refine gate_value (x := .tmp 72) rfl ?_); refine goesV_ (some 81) rfl rfl Try.func12 (by kernel_rfl) rfl #[.int .i64 t144, .int .i64 t145] rfl rfl (by (try simp only [List.map_toArray, List.map_cons, List.map_nil]); first | done | rfl | (simp only [List.length_drop, List.length_take]; rfl)) ?_; (with_reducible refine (handloomlaw01_WordRing_1.calls t144 t145 t146 _ A23.out).mono ?_); rintro e w' ⟨rfl, ⟨nd, rfl⟩⟩; refine ⟨_, rfl, ?_⟩) | (go_at_call 13; (with_reducible refine (word_Do.calls 1 t142 a1 t147 _ A25.out).mono ?_); rintro e w' ⟨rfl, ⟨nd, rfl⟩⟩) | (go_at_call 15; (with_reducible refine (word_Wrap.calls a0 t148 _ A26.out).mono ?_); rintro e w' ⟨rfl, ⟨nd, rfl⟩⟩) | (go_at_call 14; (with_reducible refine (handloomlaw01_WordRing_2.calls a0 1 t149 _ A30.out).mono ?_); rintro e w' ⟨rfl, ⟨nd, rfl⟩⟩) | (go_at_call 15; (with_reducible refine (word_Wrap.calls a0 t148 _ A26.out).mono ?_); rintro e w' ⟨rfl, ⟨nd, rfl⟩⟩) | (go_at_call 16; (with_reducible refine (handloomlaw01_awake.calls  t150 _ A32.out).mono ?_); rintro e w' ⟨rfl, ⟨nd, rfl⟩⟩))
                  go_ret
                  exact ⟨by first | rfl | (simp; done) | (simp [*]; done), by repeat (first | exact Drawn0.refl _ | apply Drawn0.step)⟩
                · rw [if_neg c31] at H
                  have c31b0 : (t149 == t148) = false := beq_eq_false_iff_ne.mpr c31
                  have c31b1 : (t149 != t148) = true := bne_iff_ne.mpr c31
                  obtain rfl := Option.some.inj H
                  go_wp2_with (first | ((with_reducible refine gate_value (x := .tmp 64) rfl ?_); refine goesV_ (some 67) rfl rfl Try.func12 (by kernel_rfl) rfl #[.int .i64 a0, .int .i64 a1] rfl rfl (by (try simp only [List.map_toArray, List.map_cons, List.map_nil]); first | done | rfl | (simp only [List.length_drop, List.length_take]; rfl)) ?_; (with_reducible refine (handloomlaw01_WordRing_1.calls a0 a1 t142 _ A19.out).mono ?_); rintro e w' ⟨rfl, ⟨nd, rfl⟩⟩; refine ⟨_, rfl, ?_⟩) | ((with_reducible refine gate_value (x := .tmp 68) rfl ?_); refine goesV_ (some 71) rfl rfl Try.func14 (by kernel_rfl) rfl #[.int .i64 t142, .int .i64 a2] rfl rfl (by (try simp only [List.map_toArray, List.map_cons, List.map_nil]); first | done | rfl | (simp only [List.length_drop, List.length_take]; rfl)) ?_; (with_reducible refine (handloomlaw01_WordRing_2.calls t142 a2 t143 _ A20.out).mono ?_); rintro e w' ⟨rfl, ⟨nd, rfl⟩⟩; refine ⟨_, rfl, ?_⟩) | ((with_reducible refine gate_value (x := .tmp 73) rfl ?_); refine goesV_ (some 76) rfl rfl Try.func14 (by kernel_rfl) rfl #[.int .i64 a0, .int .i64 a2] rfl rfl (by (try simp only [List.map_toArray, List.map_cons, List.map_nil]); first | done | rfl | (simp only [List.length_drop, List.length_take]; rfl)) ?_; (with_reducible refine (handloomlaw01_WordRing_2.calls a0 a2 t144 _ A21.out).mono ?_); rintro e w' ⟨rfl, ⟨nd, rfl⟩⟩; refine ⟨_, rfl, ?_⟩) | ((with_reducible refine gate_value (x := .tmp 77) rfl ?_); refine goesV_ (some 80) rfl rfl Try.func14 (by kernel_rfl) rfl #[.int .i64 a1, .int .i64 a2] rfl rfl (by (try simp only [List.map_toArray, List.map_cons, List.map_nil]); first | done | rfl | (simp only [List.length_drop, List.length_take]; rfl)) ?_; (with_reducible refine (handloomlaw01_WordRing_2.calls a1 a2 t145 _ A22.out).mono ?_); rintro e w' ⟨rfl, ⟨nd, rfl⟩⟩; refine ⟨_, rfl, ?_⟩) | ((with_reducible refine gate_value (x := .tmp 72) rfl ?_); refine goesV_ (some 81) rfl rfl Try.func12 (by kernel_rfl) rfl #[.int .i64 t144, .int .i64 t145] rfl rfl (by (try simp only [List.map_toArray, List.map_cons, List.map_nil]); first | done | rfl | (simp only [List.length_drop, List.length_take]; rfl)) ?_; (with_reducible refine (handloomlaw01_WordRing_1.calls t144 t145 t146 _ A23.out).mono ?_); rintro e w' ⟨rfl, ⟨nd, rfl⟩⟩; refine ⟨_, rfl, ?_⟩) | (go_at_call 13; (with_reducible refine (word_Do.calls 1 t142 a1 t147 _ A25.out).mono ?_); rintro e w' ⟨rfl, ⟨nd, rfl⟩⟩) | (go_at_call 15; (with_reducible refine (word_Wrap.calls a0 t148 _ A26.out).mono ?_); rintro e w' ⟨rfl, ⟨nd, rfl⟩⟩) | (go_at_call 14; (with_reducible refine (handloomlaw01_WordRing_2.calls a0 1 t149 _ A30.out).mono ?_); rintro e w' ⟨rfl, ⟨nd, rfl⟩⟩) | (go_at_call 15; (with_reducible refine (word_Wrap.calls a0 t148 _ A26.out).mono ?_); rintro e w' ⟨rfl, ⟨nd, rfl⟩⟩))
                  go_ret
                  exact ⟨by first | rfl | (simp; done) | (simp [*]; done), by repeat (first | exact Drawn0.refl _ | apply Drawn0.step)⟩
              · rw [if_neg c29] at H
                have c29b0 : decide (t142 < 4611686018427387904) = false := decide_eq_false c29
                clear c29
                obtain rfl := Option.some.inj H
                go_wp2_with (first | ((with_reducible refine gate_value (x := .tmp 64) rfl ?_); refine goesV_ (some 67) rfl rfl Try.func12 (by kernel_rfl) rfl #[.int .i64 a0, .int .i64 a1] rfl rfl (by (try simp only [List.map_toArray, List.map_cons, List.map_nil]); first | done | rfl | (simp only [List.length_drop, List.length_take]; rfl)) ?_; (with_reducible refine (handloomlaw01_WordRing_1.calls a0 a1 t142 _ A19.out).mono ?_); rintro e w' ⟨rfl, ⟨nd, rfl⟩⟩; refine ⟨_, rfl, ?_⟩) | ((with_reducible refine gate_value (x := .tmp 68) rfl ?_); refine goesV_ (some 71) rfl rfl Try.func14 (by kernel_rfl) rfl #[.int .i64 t142, .int .i64 a2] rfl rfl (by (try simp only [List.map_toArray, List.map_cons, List.map_nil]); first | done | rfl | (simp only [List.length_drop, List.length_take]; rfl)) ?_; (with_reducible refine (handloomlaw01_WordRing_2.calls t142 a2 t143 _ A20.out).mono ?_); rintro e w' ⟨rfl, ⟨nd, rfl⟩⟩; refine ⟨_, rfl, ?_⟩) | ((with_reducible refine gate_value (x := .tmp 73) rfl ?_); refine goesV_ (some 76) rfl rfl Try.func14 (by kernel_rfl) rfl #[.int .i64 a0, .int .i64 a2] rfl rfl (by (try simp only [List.map_toArray, List.map_cons, List.map_nil]); first | done | rfl | (simp only [List.length_drop, List.length_take]; rfl)) ?_; (with_reducible refine (handloomlaw01_WordRing_2.calls a0 a2 t144 _ A21.out).mono ?_); rintro e w' ⟨rfl, ⟨nd, rfl⟩⟩; refine ⟨_, rfl, ?_⟩) | ((with_reducible refine gate_value (x := .tmp 77) rfl ?_); refine goesV_ (some 80) rfl rfl Try.func14 (by kernel_rfl) rfl #[.int .i64 a1, .int .i64 a2] rfl rfl (by (try simp only [List.map_toArray, List.map_cons, List.map_nil]); first | done | rfl | (simp only [List.length_drop, List.length_take]; rfl)) ?_; (with_reducible refine (handloomlaw01_WordRing_2.calls a1 a2 t145 _ A22.out).mono ?_); rintro e w' ⟨rfl, ⟨nd, rfl⟩⟩; refine ⟨_, rfl, ?_⟩) | ((with_reducible refine gate_value (x := .tmp 72) rfl ?_); refine goesV_ (some 81) rfl rfl Try.func12 (by kernel_rfl) rfl #[.int .i64 t144, .int .i64 t145] rfl rfl (by (try simp only [List.map_toArray, List.map_cons, List.map_nil]); first | done | rfl | (simp only [List.length_drop, List.length_take]; rfl)) ?_; (with_reducible refine (handloomlaw01_WordRing_1.calls t144 t145 t146 _ A23.out).mono ?_); rintro e w' ⟨rfl, ⟨nd, rfl⟩⟩; refine ⟨_, rfl, ?_⟩) | (go_at_call 13; (with_reducible refine (word_Do.calls 1 t142 a1 t147 _ A25.out).mono ?_); rintro e w' ⟨rfl, ⟨nd, rfl⟩⟩) | (go_at_call 15; (with_reducible refine (word_Wrap.calls a0 t148 _ A26.out).mono ?_); rintro e w' ⟨rfl, ⟨nd, rfl⟩⟩))
                go_ret
                exact ⟨by first | rfl | (simp; done) | (simp [*]; done), by repeat (first | exact Drawn0.refl _ | apply Drawn0.step)⟩
            · rw [if_neg c28] at H
              have c28b0 : decide ((-4611686018427387904) ≤ t142) = false := decide_eq_false c28
              clear c28
              obtain rfl := Option.some.inj H
              go_wp2_with (first | ((with_reducible refine gate_value (x := .tmp 64) rfl ?_); refine goesV_ (some 67) rfl rfl Try.func12 (by kernel_rfl) rfl #[.int .i64 a0, .int .i64 a1] rfl rfl (by (try simp only [List.map_toArray, List.map_cons, List.map_nil]); first | done | rfl | (simp only [List.length_drop, List.length_take]; rfl)) ?_; (with_reducible refine (handloomlaw01_WordRing_1.calls a0 a1 t142 _ A19.out).mono ?_); rintro e w' ⟨rfl, ⟨nd, rfl⟩⟩; refine ⟨_, rfl, ?_⟩) | ((with_reducible refine gate_value (x := .tmp 68) rfl ?_); refine goesV_ (some 71) rfl rfl Try.func14 (by kernel_rfl) rfl #[.int .i64 t142, .int .i64 a2] rfl rfl (by (try simp only [List.map_toArray, List.map_cons, List.map_nil]); first | done | rfl | (simp only [List.length_drop, List.length_take]; rfl)) ?_; (with_reducible refine (handloomlaw01_WordRing_2.calls t142 a2 t143 _ A20.out).mono ?_); rintro e w' ⟨rfl, ⟨nd, rfl⟩⟩; refine ⟨_, rfl, ?_⟩) | ((with_reducible refine gate_value (x := .tmp 73) rfl ?_); refine goesV_ (some 76) rfl rfl Try.func14 (by kernel_rfl) rfl #[.int .i64 a0, .int .i64 a2] rfl rfl (by (try simp only [List.map_toArray, List.map_cons, List.map_nil]); first | done | rfl | (simp only [List.length_drop, List.length_take]; rfl)) ?_; (with_reducible refine (handloomlaw01_WordRing_2.calls a0 a2 t144 _ A21.out).mono ?_); rintro e w' ⟨rfl, ⟨nd, rfl⟩⟩; refine ⟨_, rfl, ?_⟩) | ((with_reducible refine gate_value (x := .tmp 77) rfl ?_); refine goesV_ (some 80) rfl rfl Try.func14 (by kernel_rfl) rfl #[.int .i64 a1, .int .i64 a2] rfl rfl (by (try simp only [List.map_toArray, List.map_cons, List.map_nil]); first | done | rfl | (simp only [List.length_drop, List.length_take]; rfl)) ?_; (with_reducible refine (handloomlaw01_WordRing_2.calls a1 a2 t145 _ A22.out).mono ?_); rintro e w' ⟨rfl, ⟨nd, rfl⟩⟩; refine ⟨_, rfl, ?_⟩) | ((with_reducible refine gate_value (x := .tmp 72) rfl ?_); refine goesV_ (some 81) rfl rfl Try.func12 (by kernel_rfl) rfl #[.int .i64 t144, .int .i64 t145] rfl rfl (by (try simp only [List.map_toArray, List.map_cons, List.map_nil]); first | done | rfl | (simp only [List.length_drop, List.length_take]; rfl)) ?_; (with_reducible refine (handloomlaw01_WordRing_1.calls t144 t145 t146 _ A23.out).mono ?_); rintro e w' ⟨rfl, ⟨nd, rfl⟩⟩; refine ⟨_, rfl, ?_⟩) | (go_at_call 13; (with_reducible refine (word_Do.calls 1 t142 a1 t147 _ A25.out).mono ?_); rintro e w' ⟨rfl, ⟨nd, rfl⟩⟩) | (go_at_call 15; (with_reducible refine (word_Wrap.calls a0 t148 _ A26.out).mono ?_); rintro e w' ⟨rfl, ⟨nd, rfl⟩⟩))
              go_ret
              exact ⟨by first | rfl | (simp; done) | (simp [*]; done), by repeat (first | exact Drawn0.refl _ | apply Drawn0.step)⟩
          · rw [if_neg c27] at H
            have c27b0 : (t147 == t148) = false := beq_eq_false_iff_ne.mpr c27
            have c27b1 : (t147 != t148) = true := bne_iff_ne.mpr c27
            obtain rfl := Option.some.inj H
            go_wp2_with (first | ((with_reducible refine gate_value (x := .tmp 64) rfl ?_); refine goesV_ (some 67) rfl rfl Try.func12 (by kernel_rfl) rfl #[.int .i64 a0, .int .i64 a1] rfl rfl (by (try simp only [List.map_toArray, List.map_cons, List.map_nil]); first | done | rfl | (simp only [List.length_drop, List.length_take]; rfl)) ?_; (with_reducible refine (handloomlaw01_WordRing_1.calls a0 a1 t142 _ A19.out).mono ?_); rintro e w' ⟨rfl, ⟨nd, rfl⟩⟩; refine ⟨_, rfl, ?_⟩) | ((with_reducible refine gate_value (x := .tmp 68) rfl ?_); refine goesV_ (some 71) rfl rfl Try.func14 (by kernel_rfl) rfl #[.int .i64 t142, .int .i64 a2] rfl rfl (by (try simp only [List.map_toArray, List.map_cons, List.map_nil]); first | done | rfl | (simp only [List.length_drop, List.length_take]; rfl)) ?_; (with_reducible refine (handloomlaw01_WordRing_2.calls t142 a2 t143 _ A20.out).mono ?_); rintro e w' ⟨rfl, ⟨nd, rfl⟩⟩; refine ⟨_, rfl, ?_⟩) | ((with_reducible refine gate_value (x := .tmp 73) rfl ?_); refine goesV_ (some 76) rfl rfl Try.func14 (by kernel_rfl) rfl #[.int .i64 a0, .int .i64 a2] rfl rfl (by (try simp only [List.map_toArray, List.map_cons, List.map_nil]); first | done | rfl | (simp only [List.length_drop, List.length_take]; rfl)) ?_; (with_reducible refine (handloomlaw01_WordRing_2.calls a0 a2 t144 _ A21.out).mono ?_); rintro e w' ⟨rfl, ⟨nd, rfl⟩⟩; refine ⟨_, rfl, ?_⟩) | ((with_reducible refine gate_value (x := .tmp 77) rfl ?_); refine goesV_ (some 80) rfl rfl Try.func14 (by kernel_rfl) rfl #[.int .i64 a1, .int .i64 a2] rfl rfl (by (try simp only [List.map_toArray, List.map_cons, List.map_nil]); first | done | rfl | (simp only [List.length_drop, List.length_take]; rfl)) ?_; (with_reducible refine (handloomlaw01_WordRing_2.calls a1 a2 t145 _ A22.out).mono ?_); rintro e w' ⟨rfl, ⟨nd, rfl⟩⟩; refine ⟨_, rfl, ?_⟩) | ((with_reducible refine gate_value (x := .tmp 72) rfl ?_); refine goesV_ (some 81) rfl rfl Try.func12 (by kernel_rfl) rfl #[.int .i64 t144, .int .i64 t145] rfl rfl (by (try simp only [List.map_toArray, List.map_cons, List.map_nil]); first | done | rfl | (simp only [List.length_drop, List.length_take]; rfl)) ?_; (with_reducible refine (handloomlaw01_WordRing_1.calls t144 t145 t146 _ A23.out).mono ?_); rintro e w' ⟨rfl, ⟨nd, rfl⟩⟩; refine ⟨_, rfl, ?_⟩) | (go_at_call 13; (with_reducible refine (word_Do.calls 1 t142 a1 t147 _ A25.out).mono ?_); rintro e w' ⟨rfl, ⟨nd, rfl⟩⟩) | (go_at_call 15; (with_reducible refine (word_Wrap.calls a0 t148 _ A26.out).mono ?_); rintro e w' ⟨rfl, ⟨nd, rfl⟩⟩))
            go_ret
            exact ⟨by first | rfl | (simp; done) | (simp [*]; done), by repeat (first | exact Drawn0.refl _ | apply Drawn0.step)⟩
        · rw [if_neg c24] at H
          have c24b0 : (t143 == t146) = false := beq_eq_false_iff_ne.mpr c24
          have c24b1 : (t143 != t146) = true := bne_iff_ne.mpr c24
          obtain rfl := Option.some.inj H
          go_wp2_with (first | ((with_reducible refine gate_value (x := .tmp 64) rfl ?_); refine goesV_ (some 67) rfl rfl Try.func12 (by kernel_rfl) rfl #[.int .i64 a0, .int .i64 a1] rfl rfl (by (try simp only [List.map_toArray, List.map_cons, List.map_nil]); first | done | rfl | (simp only [List.length_drop, List.length_take]; rfl)) ?_; (with_reducible refine (handloomlaw01_WordRing_1.calls a0 a1 t142 _ A19.out).mono ?_); rintro e w' ⟨rfl, ⟨nd, rfl⟩⟩; refine ⟨_, rfl, ?_⟩) | ((with_reducible refine gate_value (x := .tmp 68) rfl ?_); refine goesV_ (some 71) rfl rfl Try.func14 (by kernel_rfl) rfl #[.int .i64 t142, .int .i64 a2] rfl rfl (by (try simp only [List.map_toArray, List.map_cons, List.map_nil]); first | done | rfl | (simp only [List.length_drop, List.length_take]; rfl)) ?_; (with_reducible refine (handloomlaw01_WordRing_2.calls t142 a2 t143 _ A20.out).mono ?_); rintro e w' ⟨rfl, ⟨nd, rfl⟩⟩; refine ⟨_, rfl, ?_⟩) | ((with_reducible refine gate_value (x := .tmp 73) rfl ?_); refine goesV_ (some 76) rfl rfl Try.func14 (by kernel_rfl) rfl #[.int .i64 a0, .int .i64 a2] rfl rfl (by (try simp only [List.map_toArray, List.map_cons, List.map_nil]); first | done | rfl | (simp only [List.length_drop, List.length_take]; rfl)) ?_; (with_reducible refine (handloomlaw01_WordRing_2.calls a0 a2 t144 _ A21.out).mono ?_); rintro e w' ⟨rfl, ⟨nd, rfl⟩⟩; refine ⟨_, rfl, ?_⟩) | ((with_reducible refine gate_value (x := .tmp 77) rfl ?_); refine goesV_ (some 80) rfl rfl Try.func14 (by kernel_rfl) rfl #[.int .i64 a1, .int .i64 a2] rfl rfl (by (try simp only [List.map_toArray, List.map_cons, List.map_nil]); first | done | rfl | (simp only [List.length_drop, List.length_take]; rfl)) ?_; (with_reducible refine (handloomlaw01_WordRing_2.calls a1 a2 t145 _ A22.out).mono ?_); rintro e w' ⟨rfl, ⟨nd, rfl⟩⟩; refine ⟨_, rfl, ?_⟩) | ((with_reducible refine gate_value (x := .tmp 72) rfl ?_); refine goesV_ (some 81) rfl rfl Try.func12 (by kernel_rfl) rfl #[.int .i64 t144, .int .i64 t145] rfl rfl (by (try simp only [List.map_toArray, List.map_cons, List.map_nil]); first | done | rfl | (simp only [List.length_drop, List.length_take]; rfl)) ?_; (with_reducible refine (handloomlaw01_WordRing_1.calls t144 t145 t146 _ A23.out).mono ?_); rintro e w' ⟨rfl, ⟨nd, rfl⟩⟩; refine ⟨_, rfl, ?_⟩))
          go_ret
          exact ⟨by first | rfl | (simp; done) | (simp [*]; done), by repeat (first | exact Drawn0.refl _ | apply Drawn0.step)⟩

/-- THE ONE PURE STATEMENT of handloomlaw01_WordRing: yours. -/
def handloomlaw01_WordRing.Pure : Prop := ∀ (a0 : Int) (a1 : Int) (a2 : Int), (Lit.int .i64 a0).wf = true → (Lit.int .i64 a1).wf = true → (Lit.int .i64 a2).wf = true → ∃ k, handloomlaw01_WordRing.f k a0 a1 a2 = some true
theorem handloomlaw01_WordRing.walk (P : handloomlaw01_WordRing.Pure) (a0 : Int) (a1 : Int) (a2 : Int) (w : World) (w0 : (Lit.int .i64 a0).wf = true) (w1 : (Lit.int .i64 a1).wf = true) (w2 : (Lit.int .i64 a2).wf = true) :
    Calls Try.prog 3 #[.int .i64 a0, .int .i64 a1, .int .i64 a2] w fun e w' => e = .returned (.bool true) ∧ Below w.heap.size w w' := by
  obtain ⟨k, h⟩ := P a0 a1 a2 w0 w1 w2
  refine (handloomlaw01_WordRing.calls k a0 a1 a2 true w h).mono ?_
  rintro e w' ⟨rfl, hd⟩
  exact ⟨rfl, hd.below⟩

end Go.Proofs.Ytlemgfcopedjhaa.PWord
