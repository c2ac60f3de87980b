-- Written by xprint (a program of this work) out of the translation; Lean checks it.
import Derived.Test.YtlemgfcopedjhaaPWordx0
import Derived.Test.YtlemgfcopedjhaaPWordx1
import Derived.Test.YtlemgfcopedjhaaPWordx2
namespace Go.Proofs.Ytlemgfcopedjhaa.PWord
open Go.RowKit Go.Proofs.YtlemgfcopedjhaaW.PrintWords Go.Proofs.YtlemgfcopedjhaaW.PrintLast Go.Proofs.YtlemgfcopedjhaaW.PrintMore
attribute [local go_sem] max2_int min2_int max_two min_two max_three min_three max_four min_four   -- for this text's walks alone
set_option linter.unusedVariables false
set_option linter.unusedSimpArgs false

/-! ### handloomlaw01_WordOrders: function 7 -/
mutual
def handloomlaw01_WordOrders.j0 : Nat → Int → Int → Int → Bool → Bool → Bool → Option (Bool)
  | 0, _, _, _, _, _, _ => none
  | k + 1, x0, x1, x2, x7, x8, x54 => if x54 = true then (some false) else (if x7 = true then ((word_Asks.f 5 x1 x2).bind fun t184 => (if t184 = true then ((word_Asks.f 5 x0 x2).bind fun t185 => (handloomlaw01_WordOrders.j1 k x0 x1 x8 (!t185))) else (handloomlaw01_WordOrders.j1 k x0 x1 x8 false))) else (handloomlaw01_WordOrders.j1 k x0 x1 x8 false))
def handloomlaw01_WordOrders.j1 : Nat → Int → Int → Bool → Bool → Option (Bool)
  | 0, _, _, _, _ => none
  | k + 1, x0, x1, x8, x66 => if x66 = true then (some false) else ((word_Do.f 0 x0 1).bind fun t186 => ((word_Asks.f 5 x0 t186).bind fun t187 => ((word_Wrap.f x0).bind fun t188 => (if (t187 == (t188 != 4611686018427387903)) = true then ((word_Wrap.f x1).bind fun t189 => (if (x8 == (t188 == t189)) = true then ((handloomlaw01_awake.f).bind fun t190 => (some t190)) else (some false))) else (some false)))))
end
def handloomlaw01_WordOrders.f (k : Nat) (a0 : Int) (a1 : Int) (a2 : Int) : Option (Bool) := (word_Asks.f 5 a0 a1).bind fun t178 => ((word_Asks.f 7 a0 a1).bind fun t179 => ((word_Asks.f 5 a1 a0).bind fun t180 => (if t178 = true then (if t179 = true then (handloomlaw01_WordOrders.j0 k a0 a1 a2 t178 t179 true) else (if t180 = true then (handloomlaw01_WordOrders.j0 k a0 a1 a2 t178 t179 true) else ((word_Asks.f 6 a0 a1).bind fun t181 => (handloomlaw01_WordOrders.j0 k a0 a1 a2 t178 t179 (t181 != true))))) else (if t179 = true then (if t180 = true then (handloomlaw01_WordOrders.j0 k a0 a1 a2 t178 t179 true) else ((word_Asks.f 6 a0 a1).bind fun t182 => (handloomlaw01_WordOrders.j0 k a0 a1 a2 t178 t179 (t182 != t179)))) else (if t180 = true then ((word_Asks.f 6 a0 a1).bind fun t183 => (handloomlaw01_WordOrders.j0 k a0 a1 a2 t178 t179 (t183 != t179))) else (handloomlaw01_WordOrders.j0 k a0 a1 a2 t178 t179 true))))))
theorem handloomlaw01_WordOrders.mono_l : ∀ k, (∀ y0 y1 y2 y3 y4 y5, LeO (handloomlaw01_WordOrders.j0 k y0 y1 y2 y3 y4 y5) (handloomlaw01_WordOrders.j0 (k + 1) y0 y1 y2 y3 y4 y5)) ∧ (∀ y0 y1 y2 y3, LeO (handloomlaw01_WordOrders.j1 k y0 y1 y2 y3) (handloomlaw01_WordOrders.j1 (k + 1) y0 y1 y2 y3))
  | 0 => ⟨fun _ _ _ _ _ _ r h => by simp [handloomlaw01_WordOrders.j0] at h, fun _ _ _ _ r h => by simp [handloomlaw01_WordOrders.j1] at h⟩
  | k + 1 => by
    obtain ⟨ih0, ih1⟩ := handloomlaw01_WordOrders.mono_l k
    refine ⟨?_, ?_⟩
    · intro y0 y1 y2 y3 y4 y5
      unfold handloomlaw01_WordOrders.j0
      repeat' first
      | (with_reducible exact ih0 _ _ _ _ _ _)
      | (with_reducible exact ih1 _ _ _ _)
      | (with_reducible exact LeO.refl _)
      | (with_reducible exact LeO.none _)
      | (with_reducible refine LeO.ite ?_ ?_)
      | (with_reducible refine LeO.bind ?_ (fun _ => ?_))
      | exact ih0 _ _ _ _ _ _
      | exact ih1 _ _ _ _
      | exact LeO.none _
      | refine LeO.ite ?_ ?_
      | refine LeO.bind ?_ (fun _ => ?_)
    · intro y0 y1 y2 y3
      unfold handloomlaw01_WordOrders.j1
      repeat' first
      | (with_reducible exact ih0 _ _ _ _ _ _)
      | (with_reducible exact ih1 _ _ _ _)
      | (with_reducible exact LeO.refl _)
      | (with_reducible exact LeO.none _)
      | (with_reducible refine LeO.ite ?_ ?_)
      | (with_reducible refine LeO.bind ?_ (fun _ => ?_))
      | exact ih0 _ _ _ _ _ _
      | exact ih1 _ _ _ _
      | exact LeO.none _
      | refine LeO.ite ?_ ?_
      | refine LeO.bind ?_ (fun _ => ?_)
theorem handloomlaw01_WordOrders.mono : ∀ a0 a1 a2 k, LeO (handloomlaw01_WordOrders.f k a0 a1 a2) (handloomlaw01_WordOrders.f (k + 1) a0 a1 a2) := by
  intro a0 a1 a2 k
  obtain ⟨ih0, ih1⟩ := handloomlaw01_WordOrders.mono_l k
  unfold handloomlaw01_WordOrders.f
  repeat' first
      | (with_reducible exact ih0 _ _ _ _ _ _)
      | (with_reducible exact ih1 _ _ _ _)
      | (with_reducible exact LeO.refl _)
      | (with_reducible exact LeO.none _)
      | (with_reducible refine LeO.ite ?_ ?_)
      | (with_reducible refine LeO.bind ?_ (fun _ => ?_))
      | exact ih0 _ _ _ _ _ _
      | exact ih1 _ _ _ _
      | exact LeO.none _
      | refine LeO.ite ?_ ?_
      | refine LeO.bind ?_ (fun _ => ?_)
set_option maxHeartbeats 8000000 in
set_option maxRecDepth 100000 in
theorem handloomlaw01_WordOrders.calls (k : Nat) (a0 : Int) (a1 : Int) (a2 : Int) (r : Bool) (w : World) (h : handloomlaw01_WordOrders.f k a0 a1 a2 = some r) :
    Calls Try.prog 7 #[.int .i64 a0, .int .i64 a1, .int .i64 a2] w fun e w' => e = .returned (.bool r) ∧ Drawn0 w w' := by
  have H : ((word_Asks.f 5 a0 a1).bind fun t178 => ((word_Asks.f 7 a0 a1).bind fun t179 => ((word_Asks.f 5 a1 a0).bind fun t180 => (if t178 = true then (if t179 = true then (handloomlaw01_WordOrders.j0 k a0 a1 a2 t178 t179 true) else (if t180 = true then (handloomlaw01_WordOrders.j0 k a0 a1 a2 t178 t179 true) else ((word_Asks.f 6 a0 a1).bind fun t181 => (handloomlaw01_WordOrders.j0 k a0 a1 a2 t178 t179 (t181 != true))))) else (if t179 = true then (if t180 = true then (handloomlaw01_WordOrders.j0 k a0 a1 a2 t178 t179 true) else ((word_Asks.f 6 a0 a1).bind fun t182 => (handloomlaw01_WordOrders.j0 k a0 a1 a2 t178 t179 (t182 != t179)))) else (if t180 = true then ((word_Asks.f 6 a0 a1).bind fun t183 => (handloomlaw01_WordOrders.j0 k a0 a1 a2 t178 t179 (t183 != t179))) else (handloomlaw01_WordOrders.j0 k a0 a1 a2 t178 t179 true))))))) = some r := h
  clear h
  replace H := Option.bind_eq_some_iff.mp H
  obtain ⟨t178, A40, H⟩ := H
  replace H : ((word_Asks.f 7 a0 a1).bind fun t179 => ((word_Asks.f 5 a1 a0).bind fun t180 => (if t178 = true then (if t179 = true then (handloomlaw01_WordOrders.j0 k a0 a1 a2 t178 t179 true) else (if t180 = true then (handloomlaw01_WordOrders.j0 k a0 a1 a2 t178 t179 true) else ((word_Asks.f 6 a0 a1).bind fun t181 => (handloomlaw01_WordOrders.j0 k a0 a1 a2 t178 t179 (t181 != true))))) else (if t179 = true then (if t180 = true then (handloomlaw01_WordOrders.j0 k a0 a1 a2 t178 t179 true) else ((word_Asks.f 6 a0 a1).bind fun t182 => (handloomlaw01_WordOrders.j0 k a0 a1 a2 t178 t179 (t182 != t179)))) else (if t180 = true then ((word_Asks.f 6 a0 a1).bind fun t183 => (handloomlaw01_WordOrders.j0 k a0 a1 a2 t178 t179 (t183 != t179))) else (handloomlaw01_WordOrders.j0 k a0 a1 a2 t178 t179 true)))))) = some r := H
  have A4 := Aside0.mk A40
  clear A40
  replace H := Option.bind_eq_some_iff.mp H
  obtain ⟨t179, A50, H⟩ := H
  replace H : ((word_Asks.f 5 a1 a0).bind fun t180 => (if t178 = true then (if t179 = true then (handloomlaw01_WordOrders.j0 k a0 a1 a2 t178 t179 true) else (if t180 = true then (handloomlaw01_WordOrders.j0 k a0 a1 a2 t178 t179 true) else ((word_Asks.f 6 a0 a1).bind fun t181 => (handloomlaw01_WordOrders.j0 k a0 a1 a2 t178 t179 (t181 != true))))) else (if t179 = true then (if t180 = true then (handloomlaw01_WordOrders.j0 k a0 a1 a2 t178 t179 true) else ((word_Asks.f 6 a0 a1).bind fun t182 => (handloomlaw01_WordOrders.j0 k a0 a1 a2 t178 t179 (t182 != t179)))) else (if t180 = true then ((word_Asks.f 6 a0 a1).bind fun t183 => (handloomlaw01_WordOrders.j0 k a0 a1 a2 t178 t179 (t183 != t179))) else (handloomlaw01_WordOrders.j0 k a0 a1 a2 t178 t179 true))))) = some r := H
  have A5 := Aside0.mk A50
  clear A50
  replace H := Option.bind_eq_some_iff.mp H
  obtain ⟨t180, A60, H⟩ := H
  replace H : (if t178 = true then (if t179 = true then (handloomlaw01_WordOrders.j0 k a0 a1 a2 t178 t179 true) else (if t180 = true then (handloomlaw01_WordOrders.j0 k a0 a1 a2 t178 t179 true) else ((word_Asks.f 6 a0 a1).bind fun t181 => (handloomlaw01_WordOrders.j0 k a0 a1 a2 t178 t179 (t181 != true))))) else (if t179 = true then (if t180 = true then (handloomlaw01_WordOrders.j0 k a0 a1 a2 t178 t179 true) else ((word_Asks.f 6 a0 a1).bind fun t182 => (handloomlaw01_WordOrders.j0 k a0 a1 a2 t178 t179 (t182 != t179)))) else (if t180 = true then ((word_Asks.f 6 a0 a1).bind fun t183 => (handloomlaw01_WordOrders.j0 k a0 a1 a2 t178 t179 (t183 != t179))) else (handloomlaw01_WordOrders.j0 k a0 a1 a2 t178 t179 true)))) = some r := H
  have A6 := Aside0.mk A60
  clear A60
  have HC7 := Aside0.mk H
  clear H
  go_enter Try.func7, Try.ntmps7
  go_upto_region 2 with (first | ((with_reducible refine gate_callee (f := 25) rfl ?_); refine goesL_ (some 13) rfl rfl Try.func25 (by kernel_rfl) rfl #[.int .i64 5, .int .i64 a0, .int .i64 a1] rfl (by (try simp only [List.map_toArray, List.map_cons, List.map_nil]); first | done | rfl | (simp only [List.length_drop, List.length_take]; rfl)) ?_; (with_reducible refine (word_Asks.calls 5 a0 a1 t178 _ A4.out).mono ?_); rintro e w' ⟨rfl, ⟨nd, rfl⟩⟩; refine ⟨_, rfl, ?_⟩) | ((with_reducible refine gate_callee (f := 25) rfl ?_); refine goesL_ (some 16) rfl rfl Try.func25 (by kernel_rfl) rfl #[.int .i64 7, .int .i64 a0, .int .i64 a1] rfl (by (try simp only [List.map_toArray, List.map_cons, List.map_nil]); first | done | rfl | (simp only [List.length_drop, List.length_take]; rfl)) ?_; (with_reducible refine (word_Asks.calls 7 a0 a1 t179 _ A5.out).mono ?_); rintro e w' ⟨rfl, ⟨nd, rfl⟩⟩; refine ⟨_, rfl, ?_⟩) | ((with_reducible refine gate_callee (f := 25) rfl ?_); refine goesL_ (some 19) rfl rfl Try.func25 (by kernel_rfl) rfl #[.int .i64 5, .int .i64 a1, .int .i64 a0] rfl (by (try simp only [List.map_toArray, List.map_cons, List.map_nil]); first | done | rfl | (simp only [List.length_drop, List.length_take]; rfl)) ?_; (with_reducible refine (word_Asks.calls 5 a1 a0 t180 _ A6.out).mono ?_); rintro e w' ⟨rfl, ⟨nd, rfl⟩⟩; refine ⟨_, rfl, ?_⟩))
  (try simp only [Act.put, List.setIfInBounds_toArray, List.set_cons_zero, List.set_cons_succ])
  go_cut [54] (fun v54 wc => ∃ (kq : Nat) (x54_6 : Bool), v54 = .bool x54_6 ∧ Aside0 (handloomlaw01_WordOrders.j0 kq a0 a1 a2 t178 t179 x54_6 = some r) ∧ Aside0 (kq ≤ k) ∧ Drawn0 w wc)
  case first =>
    have H := HC7.out
    clear HC7
    by_cases c8 : t178 = true
    · subst c8
      have H1 : (if t179 = true then (handloomlaw01_WordOrders.j0 k a0 a1 a2 true t179 true) else (if t180 = true then (handloomlaw01_WordOrders.j0 k a0 a1 a2 true t179 true) else ((word_Asks.f 6 a0 a1).bind fun t181 => (handloomlaw01_WordOrders.j0 k a0 a1 a2 true t179 (t181 != true))))) = some r := by rw [if_pos rfl] at H; exact H
      clear H
      have H := H1
      clear H1
      by_cases c9 : t179 = true
      · subst c9
        have H1 : (handloomlaw01_WordOrders.j0 k a0 a1 a2 true true true) = some r := by rw [if_pos rfl] at H; exact H
        clear H
        have H := H1
        clear H1
        have H' := Aside0.mk H
        clear H
        go_wp2
        go_meet
        case rel => exact ⟨_, (true), (by first | rfl | (simp; done) | (simp [*]; done)), H', ⟨by first | omega | exact Nat.le_refl _⟩, by repeat (first | exact Drawn0.refl _ | apply Drawn0.step)⟩
      · replace c9 := Bool.eq_false_iff.mpr c9
        subst c9
        have H1 : (if t180 = true then (handloomlaw01_WordOrders.j0 k a0 a1 a2 true false true) else ((word_Asks.f 6 a0 a1).bind fun t181 => (handloomlaw01_WordOrders.j0 k a0 a1 a2 true false (t181 != true)))) = some r := by rw [if_neg (show ¬ (false = true) by decide)] at H; exact H
        clear H
        have H := H1
        clear H1
        by_cases c10 : t180 = true
        · subst c10
          have H1 : (handloomlaw01_WordOrders.j0 k a0 a1 a2 true false true) = some r := by rw [if_pos rfl] at H; exact H
          clear H
          have H := H1
          clear H1
          have H' := Aside0.mk H
          clear H
          go_wp2
          go_meet
          case rel => exact ⟨_, (true), (by first | rfl | (simp; done) | (simp [*]; done)), H', ⟨by first | omega | exact Nat.le_refl _⟩, by repeat (first | exact Drawn0.refl _ | apply Drawn0.step)⟩
        · replace c10 := Bool.eq_false_iff.mpr c10
          subst c10
          have H1 : ((word_Asks.f 6 a0 a1).bind fun t181 => (handloomlaw01_WordOrders.j0 k a0 a1 a2 true false (t181 != true))) = some r := by rw [if_neg (show ¬ (false = true) by decide)] at H; exact H
          clear H
          have H := H1
          clear H1
          replace H := Option.bind_eq_some_iff.mp H
          obtain ⟨t181, A110, H⟩ := H
          replace H : (handloomlaw01_WordOrders.j0 k a0 a1 a2 true false (t181 != true)) = some r := H
          have A11 := Aside0.mk A110
          clear A110
          have H' := Aside0.mk H
          clear H
          go_wp2_with (first | (go_at_call 25; (with_reducible refine (word_Asks.calls 6 a0 a1 t181 _ A11.out).mono ?_); rintro e w' ⟨rfl, ⟨nd, rfl⟩⟩))
          go_meet
          case rel => exact ⟨_, ((t181 != true)), (by first | rfl | (simp; done) | (simp [*]; done)), H', ⟨by first | omega | exact Nat.le_refl _⟩, by repeat (first | exact Drawn0.refl _ | apply Drawn0.step)⟩
    · replace c8 := Bool.eq_false_iff.mpr c8
      subst c8
      have H1 : (if t179 = true then (if t180 = true then (handloomlaw01_WordOrders.j0 k a0 a1 a2 false t179 true) else ((word_Asks.f 6 a0 a1).bind fun t182 => (handloomlaw01_WordOrders.j0 k a0 a1 a2 false t179 (t182 != t179)))) else (if t180 = true then ((word_Asks.f 6 a0 a1).bind fun t183 => (handloomlaw01_WordOrders.j0 k a0 a1 a2 false t179 (t183 != t179))) else (handloomlaw01_WordOrders.j0 k a0 a1 a2 false t179 true))) = some r := by rw [if_neg (show ¬ (false = true) by decide)] at H; exact H
      clear H
      have H := H1
      clear H1
      by_cases c12 : t179 = true
      · subst c12
        have H1 : (if t180 = true then (handloomlaw01_WordOrders.j0 k a0 a1 a2 false true true) else ((word_Asks.f 6 a0 a1).bind fun t182 => (handloomlaw01_WordOrders.j0 k a0 a1 a2 false true (t182 != true)))) = some r := by rw [if_pos rfl] at H; exact H
        clear H
        have H := H1
        clear H1
        by_cases c13 : t180 = true
        · subst c13
          have H1 : (handloomlaw01_WordOrders.j0 k a0 a1 a2 false true true) = some r := by rw [if_pos rfl] at H; exact H
          clear H
          have H := H1
          clear H1
          have H' := Aside0.mk H
          clear H
          go_wp2
          go_meet
          case rel => exact ⟨_, (true), (by first | rfl | (simp; done) | (simp [*]; done)), H', ⟨by first | omega | exact Nat.le_refl _⟩, by repeat (first | exact Drawn0.refl _ | apply Drawn0.step)⟩
        · replace c13 := Bool.eq_false_iff.mpr c13
          subst c13
          have H1 : ((word_Asks.f 6 a0 a1).bind fun t182 => (handloomlaw01_WordOrders.j0 k a0 a1 a2 false true (t182 != true))) = some r := by rw [if_neg (show ¬ (false = true) by decide)] at H; exact H
          clear H
          have H := H1
          clear H1
          replace H := Option.bind_eq_some_iff.mp H
          obtain ⟨t182, A140, H⟩ := H
          replace H : (handloomlaw01_WordOrders.j0 k a0 a1 a2 false true (t182 != true)) = some r := H
          have A14 := Aside0.mk A140
          clear A140
          have H' := Aside0.mk H
          clear H
          go_wp2_with (first | (go_at_call 25; (with_reducible refine (word_Asks.calls 6 a0 a1 t182 _ A14.out).mono ?_); rintro e w' ⟨rfl, ⟨nd, rfl⟩⟩))
          go_meet
          case rel => exact ⟨_, ((t182 != true)), (by first | rfl | (simp; done) | (simp [*]; done)), H', ⟨by first | omega | exact Nat.le_refl _⟩, by repeat (first | exact Drawn0.refl _ | apply Drawn0.step)⟩
      · replace c12 := Bool.eq_false_iff.mpr c12
        subst c12
        have H1 : (if t180 = true then ((word_Asks.f 6 a0 a1).bind fun t183 => (handloomlaw01_WordOrders.j0 k a0 a1 a2 false false (t183 != false))) else (handloomlaw01_WordOrders.j0 k a0 a1 a2 false false true)) = some r := by rw [if_neg (show ¬ (false = true) by decide)] at H; exact H
        clear H
        have H := H1
        clear H1
        by_cases c15 : t180 = true
        · subst c15
          have H1 : ((word_Asks.f 6 a0 a1).bind fun t183 => (handloomlaw01_WordOrders.j0 k a0 a1 a2 false false (t183 != false))) = some r := by rw [if_pos rfl] at H; exact H
          clear H
          have H := H1
          clear H1
          replace H := Option.bind_eq_some_iff.mp H
          obtain ⟨t183, A160, H⟩ := H
          replace H : (handloomlaw01_WordOrders.j0 k a0 a1 a2 false false (t183 != false)) = some r := H
          have A16 := Aside0.mk A160
          clear A160
          have H' := Aside0.mk H
          clear H
          go_wp2_with (first | (go_at_call 25; (with_reducible refine (word_Asks.calls 6 a0 a1 t183 _ A16.out).mono ?_); rintro e w' ⟨rfl, ⟨nd, rfl⟩⟩))
          go_meet
          case rel => exact ⟨_, ((t183 != false)), (by first | rfl | (simp; done) | (simp [*]; done)), H', ⟨by first | omega | exact Nat.le_refl _⟩, by repeat (first | exact Drawn0.refl _ | apply Drawn0.step)⟩
        · replace c15 := Bool.eq_false_iff.mpr c15
          subst c15
          have H1 : (handloomlaw01_WordOrders.j0 k a0 a1 a2 false false true) = some r := by rw [if_neg (show ¬ (false = true) by decide)] at H; exact H
          clear H
          have H := H1
          clear H1
          have H' := Aside0.mk H
          clear H
          go_wp2
          go_meet
          case rel => exact ⟨_, (true), (by first | rfl | (simp; done) | (simp [*]; done)), H', ⟨by first | omega | exact Nat.le_refl _⟩, by repeat (first | exact Drawn0.refl _ | apply Drawn0.step)⟩
  case rest =>
    clear HC7
    try clear c1
    try clear c2
    try clear p2
    try clear c7
    try clear c8
    try clear c9
    try clear c10
    try clear c12
    try clear c13
    try clear c15
    obtain ⟨kq, x54_6, rfl, HA, HJ6, ⟨mc6, rfl⟩⟩ := hcut
    cases kq with
    | zero => exact absurd HA.out (by simp [handloomlaw01_WordOrders.j0])
    | succ kj6 =>
      have H := HA.out
      clear HA
      simp only [handloomlaw01_WordOrders.j0] at H
      by_cases c17 : x54_6 = true
      · subst c17
        have H1 : (some false) = some r := by rw [if_pos rfl] at H; exact H
        clear H
        have H := H1
        clear H1
        obtain rfl := Option.some.inj H
        go_wp2
        go_ret
        exact ⟨by first | rfl | (simp; done) | (simp [*]; done), by repeat (first | exact Drawn0.refl _ | apply Drawn0.step)⟩
      · replace c17 := Bool.eq_false_iff.mpr c17
        subst c17
        have H1 : (if t178 = true then ((word_Asks.f 5 a1 a2).bind fun t184 => (if t184 = true then ((word_Asks.f 5 a0 a2).bind fun t185 => (handloomlaw01_WordOrders.j1 kj6 a0 a1 t179 (!t185))) else (handloomlaw01_WordOrders.j1 kj6 a0 a1 t179 false))) else (handloomlaw01_WordOrders.j1 kj6 a0 a1 t179 false)) = some r := by rw [if_neg (show ¬ (false = true) by decide)] at H; exact H
        clear H
        have H := H1
        clear H1
        have HC18 := Aside0.mk H
        clear H
        go_upto_region 4 with (fail)
        go_cut [66] (fun v66 wc => ∃ (kq : Nat) (x66_17 : Bool), v66 = .bool x66_17 ∧ Aside0 (handloomlaw01_WordOrders.j1 kq a0 a1 t179 x66_17 = some r) ∧ Aside0 (kq ≤ kj6) ∧ Drawn0 w wc)
        case first =>
          have H := HC18.out
          clear HC18
          by_cases c19 : t178 = true
          · subst c19
            have H1 : ((word_Asks.f 5 a1 a2).bind fun t184 => (if t184 = true then ((word_Asks.f 5 a0 a2).bind fun t185 => (handloomlaw01_WordOrders.j1 kj6 a0 a1 t179 (!t185))) else (handloomlaw01_WordOrders.j1 kj6 a0 a1 t179 false))) = some r := by rw [if_pos rfl] at H; exact H
            clear H
            have H := H1
            clear H1
            replace H := Option.bind_eq_some_iff.mp H
            obtain ⟨t184, A200, H⟩ := H
            replace H : (if t184 = true then ((word_Asks.f 5 a0 a2).bind fun t185 => (handloomlaw01_WordOrders.j1 kj6 a0 a1 t179 (!t185))) else (handloomlaw01_WordOrders.j1 kj6 a0 a1 t179 false)) = some r := H
            have A20 := Aside0.mk A200
            clear A200
            by_cases c21 : t184 = true
            · subst c21
              have H1 : ((word_Asks.f 5 a0 a2).bind fun t185 => (handloomlaw01_WordOrders.j1 kj6 a0 a1 t179 (!t185))) = some r := by rw [if_pos rfl] at H; exact H
              clear H
              have H := H1
              clear H1
              replace H := Option.bind_eq_some_iff.mp H
              obtain ⟨t185, A220, H⟩ := H
              replace H : (handloomlaw01_WordOrders.j1 kj6 a0 a1 t179 (!t185)) = some r := H
              have A22 := Aside0.mk A220
              clear A220
              have H' := Aside0.mk H
              clear H
              go_wp2_with (first | (go_at_call 25; (with_reducible refine (word_Asks.calls 5 a1 a2 true _ A20.out).mono ?_); rintro e w' ⟨rfl, ⟨nd, rfl⟩⟩) | (go_at_call 25; (with_reducible refine (word_Asks.calls 5 a0 a2 t185 _ A22.out).mono ?_); rintro e w' ⟨rfl, ⟨nd, rfl⟩⟩))
              go_meet
              case rel => exact ⟨_, (!t185), (by first | rfl | (simp; done) | (simp [*]; done)), H', ⟨by have := HJ6.out; first | omega | exact Nat.le_refl _⟩, by repeat (first | exact Drawn0.refl _ | apply Drawn0.step)⟩
            · replace c21 := Bool.eq_false_iff.mpr c21
              subst c21
              have H1 : (handloomlaw01_WordOrders.j1 kj6 a0 a1 t179 false) = some r := by rw [if_neg (show ¬ (false = true) by decide)] at H; exact H
              clear H
              have H := H1
              clear H1
              have H' := Aside0.mk H
              clear H
              go_wp2_with (first | (go_at_call 25; (with_reducible refine (word_Asks.calls 5 a1 a2 false _ A20.out).mono ?_); rintro e w' ⟨rfl, ⟨nd, rfl⟩⟩))
              go_meet
              case rel => exact ⟨_, (false), (by first | rfl | (simp; done) | (simp [*]; done)), H', ⟨by have := HJ6.out; first | omega | exact Nat.le_refl _⟩, by repeat (first | exact Drawn0.refl _ | apply Drawn0.step)⟩
          · replace c19 := Bool.eq_false_iff.mpr c19
            subst c19
            have H1 : (handloomlaw01_WordOrders.j1 kj6 a0 a1 t179 false) = some r := by rw [if_neg (show ¬ (false = true) by decide)] at H; exact H
            clear H
            have H := H1
            clear H1
            have H' := Aside0.mk H
            clear H
            go_wp2
            go_meet
            case rel => exact ⟨_, (false), (by first | rfl | (simp; done) | (simp [*]; done)), H', ⟨by have := HJ6.out; first | omega | exact Nat.le_refl _⟩, by repeat (first | exact Drawn0.refl _ | apply Drawn0.step)⟩
        case rest =>
          clear HC18
          try clear c1
          try clear c2
          try clear p2
          try clear c6
          try clear c7
          try clear c8
          try clear c9
          try clear c10
          try clear c12
          try clear c13
          try clear c15
          try clear c17
          try clear c19
          try clear c21
          try clear p2
          obtain ⟨kq, x66_17, rfl, HA, HJ17, ⟨mc17, rfl⟩⟩ := hcut
          cases kq with
          | zero => exact absurd HA.out (by simp [handloomlaw01_WordOrders.j1])
          | succ kj17 =>
            have H := HA.out
            clear HA
            simp only [handloomlaw01_WordOrders.j1] at H
            by_cases c23 : x66_17 = true
            · subst c23
              have H1 : (some false) = some r := by rw [if_pos rfl] at H; exact H
              clear H
              have H := H1
              clear H1
              obtain rfl := Option.some.inj H
              go_wp2
              go_ret
              exact ⟨by first | rfl | (simp; done) | (simp [*]; done), by repeat (first | exact Drawn0.refl _ | apply Drawn0.step)⟩
            · replace c23 := Bool.eq_false_iff.mpr c23
              subst c23
              have H1 : ((word_Do.f 0 a0 1).bind fun t186 => ((word_Asks.f 5 a0 t186).bind fun t187 => ((word_Wrap.f a0).bind fun t188 => (if (t187 == (t188 != 4611686018427387903)) = true then ((word_Wrap.f a1).bind fun t189 => (if (t179 == (t188 == t189)) = true then ((handloomlaw01_awake.f).bind fun t190 => (some t190)) else (some false))) else (some false))))) = some r := by rw [if_neg (show ¬ (false = true) by decide)] at H; exact H
              clear H
              have H := H1
              clear H1
              replace H := Option.bind_eq_some_iff.mp H
              obtain ⟨t186, A240, H⟩ := H
              replace H : ((word_Asks.f 5 a0 t186).bind fun t187 => ((word_Wrap.f a0).bind fun t188 => (if (t187 == (t188 != 4611686018427387903)) = true then ((word_Wrap.f a1).bind fun t189 => (if (t179 == (t188 == t189)) = true then ((handloomlaw01_awake.f).bind fun t190 => (some t190)) else (some false))) else (some false)))) = some r := H
              have A24 := Aside0.mk A240
              clear A240
              replace H := Option.bind_eq_some_iff.mp H
              obtain ⟨t187, A250, H⟩ := H
              replace H : ((word_Wrap.f a0).bind fun t188 => (if (t187 == (t188 != 4611686018427387903)) = true then ((word_Wrap.f a1).bind fun t189 => (if (t179 == (t188 == t189)) = true then ((handloomlaw01_awake.f).bind fun t190 => (some t190)) else (some false))) else (some false))) = some r := H
              have A25 := Aside0.mk A250
              clear A250
              replace H := Option.bind_eq_some_iff.mp H
              obtain ⟨t188, A260, H⟩ := H
              replace H : (if (t187 == (t188 != 4611686018427387903)) = true then ((word_Wrap.f a1).bind fun t189 => (if (t179 == (t188 == t189)) = true then ((handloomlaw01_awake.f).bind fun t190 => (some t190)) else (some false))) else (some false)) = some r := H
              have A26 := Aside0.mk A260
              clear A260
              by_cases c27 : (t187 == (t188 != 4611686018427387903)) = true
              · rw [if_pos c27] at H
                have c27b0 : (t187 == (t188 != 4611686018427387903)) = true := c27
                (try (have c27b1 : decide (t187 = (t188 != 4611686018427387903)) = true := by simpa using c27))
                (try (have c27b2 : (t187 == (t188 != 4611686018427387903)) = true := by simpa using c27))
                clear c27
                replace H := Option.bind_eq_some_iff.mp H
                obtain ⟨t189, A280, H⟩ := H
                replace H : (if (t179 == (t188 == t189)) = true then ((handloomlaw01_awake.f).bind fun t190 => (some t190)) else (some false)) = some r := H
                have A28 := Aside0.mk A280
                clear A280
                by_cases c29 : (t179 == (t188 == t189)) = true
                · rw [if_pos c29] at H
                  have c29b0 : (t179 == (t188 == t189)) = true := c29
                  (try (have c29b1 : decide (t179 = (t188 == t189)) = true := by simpa using c29))
                  (try (have c29b2 : (t179 == (t188 == t189)) = true := by simpa using c29))
                  clear c29
                  replace H := Option.bind_eq_some_iff.mp H
                  obtain ⟨t190, A300, H⟩ := H
                  replace H : (some t190) = some r := H
                  have A30 := Aside0.mk A300
                  clear A300
                  obtain rfl := Option.some.inj H
                  go_wp2_with (first | ((with_reducible refine gate_callee (f := 13) rfl ?_); refine goesL_ (some 68) rfl rfl Try.func13 (by kernel_rfl) rfl #[.int .i64 0, .int .i64 a0, .int .i64 1] rfl (by (try simp only [List.map_toArray, List.map_cons, List.map_nil]); first | done | rfl | (simp only [List.length_drop, List.length_take]; rfl)) ?_; (with_reducible refine (word_Do.calls 0 a0 1 t186 _ A24.out).mono ?_); rintro e w' ⟨rfl, ⟨nd, rfl⟩⟩; refine ⟨_, rfl, ?_⟩) | ((with_reducible refine gate_callee (f := 25) rfl ?_); refine goesL_ (some 71) rfl rfl Try.func25 (by kernel_rfl) rfl #[.int .i64 5, .int .i64 a0, .int .i64 t186] rfl (by (try simp only [List.map_toArray, List.map_cons, List.map_nil]); first | done | rfl | (simp only [List.length_drop, List.length_take]; rfl)) ?_; (with_reducible refine (word_Asks.calls 5 a0 t186 t187 _ A25.out).mono ?_); rintro e w' ⟨rfl, ⟨nd, rfl⟩⟩; refine ⟨_, rfl, ?_⟩) | ((with_reducible refine gate_callee (f := 15) rfl ?_); refine goesL_ (some 73) rfl rfl Try.func15 (by kernel_rfl) rfl #[.int .i64 a0] rfl (by (try simp only [List.map_toArray, List.map_cons, List.map_nil]); first | done | rfl | (simp only [List.length_drop, List.length_take]; rfl)) ?_; (with_reducible refine (word_Wrap.calls a0 t188 _ A26.out).mono ?_); rintro e w' ⟨rfl, ⟨nd, rfl⟩⟩; refine ⟨_, rfl, ?_⟩) | (go_at_call 15; (with_reducible refine (word_Wrap.calls a0 t188 _ A26.out).mono ?_); rintro e w' ⟨rfl, ⟨nd, rfl⟩⟩) | (go_at_call 15; (with_reducible refine (word_Wrap.calls a1 t189 _ A28.out).mono ?_); rintro e w' ⟨rfl, ⟨nd, rfl⟩⟩) | (go_at_call 16; (with_reducible refine (handloomlaw01_awake.calls  t190 _ A30.out).mono ?_); rintro e w' ⟨rfl, ⟨nd, rfl⟩⟩))
                  go_ret
                  exact ⟨by first | rfl | (simp; done) | (simp [*]; done), by repeat (first | exact Drawn0.refl _ | apply Drawn0.step)⟩
                · rw [if_neg c29] at H
                  have c29b0 : (t179 == (t188 == t189)) = false := by simpa using c29
                  (try (have c29b1 : decide (t179 = (t188 == t189)) = false := by simpa using c29))
                  (try (have c29b2 : (t179 == (t188 == t189)) = false := by simpa using c29))
                  (try (have c29b3 : ¬ (t179 = (t188 == t189)) := by simpa using c29))
                  clear c29
                  obtain rfl := Option.some.inj H
                  go_wp2_with (first | ((with_reducible refine gate_callee (f := 13) rfl ?_); refine goesL_ (some 68) rfl rfl Try.func13 (by kernel_rfl) rfl #[.int .i64 0, .int .i64 a0, .int .i64 1] rfl (by (try simp only [List.map_toArray, List.map_cons, List.map_nil]); first | done | rfl | (simp only [List.length_drop, List.length_take]; rfl)) ?_; (with_reducible refine (word_Do.calls 0 a0 1 t186 _ A24.out).mono ?_); rintro e w' ⟨rfl, ⟨nd, rfl⟩⟩; refine ⟨_, rfl, ?_⟩) | ((with_reducible refine gate_callee (f := 25) rfl ?_); refine goesL_ (some 71) rfl rfl Try.func25 (by kernel_rfl) rfl #[.int .i64 5, .int .i64 a0, .int .i64 t186] rfl (by (try simp only [List.map_toArray, List.map_cons, List.map_nil]); first | done | rfl | (simp only [List.length_drop, List.length_take]; rfl)) ?_; (with_reducible refine (word_Asks.calls 5 a0 t186 t187 _ A25.out).mono ?_); rintro e w' ⟨rfl, ⟨nd, rfl⟩⟩; refine ⟨_, rfl, ?_⟩) | ((with_reducible refine gate_callee (f := 15) rfl ?_); refine goesL_ (some 73) rfl rfl Try.func15 (by kernel_rfl) rfl #[.int .i64 a0] rfl (by (try simp only [List.map_toArray, List.map_cons, List.map_nil]); first | done | rfl | (simp only [List.length_drop, List.length_take]; rfl)) ?_; (with_reducible refine (word_Wrap.calls a0 t188 _ A26.out).mono ?_); rintro e w' ⟨rfl, ⟨nd, rfl⟩⟩; refine ⟨_, rfl, ?_⟩) | (go_at_call 15; (with_reducible refine (word_Wrap.calls a0 t188 _ A26.out).mono ?_); rintro e w' ⟨rfl, ⟨nd, rfl⟩⟩) | (go_at_call 15; (with_reducible refine (word_Wrap.calls a1 t189 _ A28.out).mono ?_); rintro e w' ⟨rfl, ⟨nd, rfl⟩⟩))
                  go_ret
                  exact ⟨by first | rfl | (simp; done) | (simp [*]; done), by repeat (first | exact Drawn0.refl _ | apply Drawn0.step)⟩
              · rw [if_neg c27] at H
                have c27b0 : (t187 == (t188 != 4611686018427387903)) = false := by simpa using c27
                (try (have c27b1 : decide (t187 = (t188 != 4611686018427387903)) = false := by simpa using c27))
                (try (have c27b2 : (t187 == (t188 != 4611686018427387903)) = false := by simpa using c27))
                (try (have c27b3 : ¬ (t187 = (t188 != 4611686018427387903)) := by simpa using c27))
                clear c27
                obtain rfl := Option.some.inj H
                go_wp2_with (first | ((with_reducible refine gate_callee (f := 13) rfl ?_); refine goesL_ (some 68) rfl rfl Try.func13 (by kernel_rfl) rfl #[.int .i64 0, .int .i64 a0, .int .i64 1] rfl (by (try simp only [List.map_toArray, List.map_cons, List.map_nil]); first | done | rfl | (simp only [List.length_drop, List.length_take]; rfl)) ?_; (with_reducible refine (word_Do.calls 0 a0 1 t186 _ A24.out).mono ?_); rintro e w' ⟨rfl, ⟨nd, rfl⟩⟩; refine ⟨_, rfl, ?_⟩) | ((with_reducible refine gate_callee (f := 25) rfl ?_); refine goesL_ (some 71) rfl rfl Try.func25 (by kernel_rfl) rfl #[.int .i64 5, .int .i64 a0, .int .i64 t186] rfl (by (try simp only [List.map_toArray, List.map_cons, List.map_nil]); first | done | rfl | (simp only [List.length_drop, List.length_take]; rfl)) ?_; (with_reducible refine (word_Asks.calls 5 a0 t186 t187 _ A25.out).mono ?_); rintro e w' ⟨rfl, ⟨nd, rfl⟩⟩; refine ⟨_, rfl, ?_⟩) | ((with_reducible refine gate_callee (f := 15) rfl ?_); refine goesL_ (some 73) rfl rfl Try.func15 (by kernel_rfl) rfl #[.int .i64 a0] rfl (by (try simp only [List.map_toArray, List.map_cons, List.map_nil]); first | done | rfl | (simp only [List.length_drop, List.length_take]; rfl)) ?_; (with_reducible refine (word_Wrap.calls a0 t188 _ A26.out).mono ?_); rintro e w' ⟨rfl, ⟨nd, rfl⟩⟩; refine ⟨_, rfl, ?_⟩))
                go_ret
                exact ⟨by first | rfl | (simp; done) | (simp [*]; done), by repeat (first | exact Drawn0.refl _ | apply Drawn0.step)⟩

/-- THE ONE PURE STATEMENT of handloomlaw01_WordOrders: yours. -/
def handloomlaw01_WordOrders.Pure : Prop := ∀ (a0 : Int) (a1 : Int) (a2 : Int), (Lit.int .i64 a0).wf = true → (Lit.int .i64 a1).wf = true → (Lit.int .i64 a2).wf = true → ∃ k, handloomlaw01_WordOrders.f k a0 a1 a2 = some true
theorem handloomlaw01_WordOrders.walk (P : handloomlaw01_WordOrders.Pure) (a0 : Int) (a1 : Int) (a2 : Int) (w : World) (w0 : (Lit.int .i64 a0).wf = true) (w1 : (Lit.int .i64 a1).wf = true) (w2 : (Lit.int .i64 a2).wf = true) :
    Calls Try.prog 7 #[.int .i64 a0, .int .i64 a1, .int .i64 a2] w fun e w' => e = .returned (.bool true) ∧ Below w.heap.size w w' := by
  obtain ⟨k, h⟩ := P a0 a1 a2 w0 w1 w2
  refine (handloomlaw01_WordOrders.calls k a0 a1 a2 true w h).mono ?_
  rintro e w' ⟨rfl, hd⟩
  exact ⟨rfl, hd.below⟩

/-! ### handloomref01_Wrap: function 32 -/
def handloomref01_Wrap.f (a0 : Int) : Option (Int) := if (Go.bits .and .u64 (IntKind.u64.wrap (a0)) 9223372036854775807) ≥ 4611686018427387904 then (some (wrap64 (IntKind.u64.wrap ((Go.bits .and .u64 (IntKind.u64.wrap (a0)) 9223372036854775807) - 9223372036854775808)))) else (some (wrap64 (Go.bits .and .u64 (IntKind.u64.wrap (a0)) 9223372036854775807)))
set_option maxHeartbeats 8000000 in
set_option maxRecDepth 100000 in
theorem handloomref01_Wrap.calls (a0 : Int) (r : Int) (w : World) (h : handloomref01_Wrap.f a0 = some r) :
    Calls Try.prog 32 #[.int .i64 a0] w fun e w' => e = .returned (.int .i64 r) ∧ Drawn0 w w' := by
  have H : (if (Go.bits .and .u64 (IntKind.u64.wrap (a0)) 9223372036854775807) ≥ 4611686018427387904 then (some (wrap64 (IntKind.u64.wrap ((Go.bits .and .u64 (IntKind.u64.wrap (a0)) 9223372036854775807) - 9223372036854775808)))) else (some (wrap64 (Go.bits .and .u64 (IntKind.u64.wrap (a0)) 9223372036854775807)))) = some r := h
  clear h
  by_cases c2 : (Go.bits .and .u64 (IntKind.u64.wrap (a0)) 9223372036854775807) ≥ 4611686018427387904
  · rw [if_pos c2] at H
    have c2b0 : decide (4611686018427387904 ≤ (Go.bits .and .u64 (IntKind.u64.wrap (a0)) 9223372036854775807)) = true := decide_eq_true c2
    clear c2
    obtain rfl := Option.some.inj H
    go_enter Try.func32, Try.ntmps32
    go_wp2
    go_ret
    exact ⟨by first | rfl | (simp; done) | (simp [*]; done), by repeat (first | exact Drawn0.refl _ | apply Drawn0.step)⟩
  · rw [if_neg c2] at H
    have c2b0 : decide (4611686018427387904 ≤ (Go.bits .and .u64 (IntKind.u64.wrap (a0)) 9223372036854775807)) = false := decide_eq_false c2
    clear c2
    obtain rfl := Option.some.inj H
    go_enter Try.func32, Try.ntmps32
    go_wp2
    go_ret
    exact ⟨by first | rfl | (simp; done) | (simp [*]; done), by repeat (first | exact Drawn0.refl _ | apply Drawn0.step)⟩

/-! ### handloomref01_Num: function 30 -/
def handloomref01_Num.f (a0 : Int) : Option (Int × Bool) := if (Int.tmod a0 2) = 0 then (some (0, false)) else ((handloomref01_Wrap.f (wrap64 (IntKind.u64.wrap (Int.tdiv a0 2)))).bind fun t191 => (some (t191, true)))
set_option maxHeartbeats 8000000 in
set_option maxRecDepth 100000 in
theorem handloomref01_Num.calls (a0 : Int) (r1 : Int) (r2 : Bool) (w : World) (h : handloomref01_Num.f a0 = some (r1, r2)) :
    Calls Try.prog 30 #[.int .u64 a0] w fun e w' => e = .returned (.tuple #[.int .i64 r1, .bool r2]) ∧ Drawn0 w w' := by
  have H : (if (Int.tmod a0 2) = 0 then (some (0, false)) else ((handloomref01_Wrap.f (wrap64 (IntKind.u64.wrap (Int.tdiv a0 2)))).bind fun t191 => (some (t191, true)))) = some (r1, r2) := h
  clear h
  by_cases c2 : (Int.tmod a0 2) = 0
  · rw [if_pos c2] at H
    have c2b0 : ((Int.tmod a0 2) == 0) = true := beq_iff_eq.mpr c2
    have c2b1 : ((Int.tmod a0 2) != 0) = false := bne_eq_false_iff_eq.mpr c2
    clear c2
    simp only [Option.some.injEq, Prod.mk.injEq] at H
    obtain ⟨rfl, rfl⟩ := H
    go_enter Try.func30, Try.ntmps30
    go_wp2
    go_ret2
    exact ⟨by first | rfl | (simp; done) | (simp [*]; done), by repeat (first | exact Drawn0.refl _ | apply Drawn0.step)⟩
  · rw [if_neg c2] at H
    have c2b0 : ((Int.tmod a0 2) == 0) = false := beq_eq_false_iff_ne.mpr c2
    have c2b1 : ((Int.tmod a0 2) != 0) = true := bne_iff_ne.mpr c2
    replace H := Option.bind_eq_some_iff.mp H
    obtain ⟨t191, A30, H⟩ := H
    replace H : (some (t191, true)) = some (r1, r2) := H
    have A3 := Aside0.mk A30
    clear A30
    simp only [Option.some.injEq, Prod.mk.injEq] at H
    obtain ⟨rfl, rfl⟩ := H
    go_enter Try.func30, Try.ntmps30
    go_wp2_with (first | ((with_reducible refine gate_callee (f := 32) rfl ?_); refine goesL_ (some 10) rfl rfl Try.func32 (by kernel_rfl) rfl #[.int .i64 (wrap64 (IntKind.u64.wrap (Int.tdiv a0 2)))] rfl (by (try simp only [List.map_toArray, List.map_cons, List.map_nil]); first | done | rfl | (simp only [List.length_drop, List.length_take]; rfl)) ?_; (with_reducible refine (handloomref01_Wrap.calls (wrap64 (IntKind.u64.wrap (Int.tdiv a0 2))) t191 _ A3.out).mono ?_); rintro e w' ⟨rfl, ⟨nd, rfl⟩⟩; refine ⟨_, rfl, ?_⟩))
    go_ret2
    exact ⟨by first | rfl | (simp; done) | (simp [*]; done), by repeat (first | exact Drawn0.refl _ | apply Drawn0.step)⟩

/-! ### handloomref01_At: function 31 -/
def handloomref01_At.f (a0 : Int) : Option (Int × Bool) := if (Int.tmod a0 2) = 1 then (some (0, false)) else (if a0 = 0 then (some (0, false)) else (if a0 ≥ 8589934592 then (some (0, false)) else (some ((IntKind.u64.wrap (Int.tdiv a0 2)) % 4294967296, true))))
set_option maxHeartbeats 8000000 in
set_option maxRecDepth 100000 in
theorem handloomref01_At.calls (a0 : Int) (r1 : Int) (r2 : Bool) (w : World) (h : handloomref01_At.f a0 = some (r1, r2)) :
    Calls Try.prog 31 #[.int .u64 a0] w fun e w' => e = .returned (.tuple #[.int .u32 r1, .bool r2]) ∧ Drawn0 w w' := by
  have H : (if (Int.tmod a0 2) = 1 then (some (0, false)) else (if a0 = 0 then (some (0, false)) else (if a0 ≥ 8589934592 then (some (0, false)) else (some ((IntKind.u64.wrap (Int.tdiv a0 2)) % 4294967296, true))))) = some (r1, r2) := h
  clear h
  by_cases c2 : (Int.tmod a0 2) = 1
  · rw [if_pos c2] at H
    have c2b0 : ((Int.tmod a0 2) == 1) = true := beq_iff_eq.mpr c2
    have c2b1 : ((Int.tmod a0 2) != 1) = false := bne_eq_false_iff_eq.mpr c2
    clear c2
    simp only [Option.some.injEq, Prod.mk.injEq] at H
    obtain ⟨rfl, rfl⟩ := H
    go_enter Try.func31, Try.ntmps31
    go_wp2
    go_ret2
    exact ⟨by first | rfl | (simp; done) | (simp [*]; done), by repeat (first | exact Drawn0.refl _ | apply Drawn0.step)⟩
  · rw [if_neg c2] at H
    have c2b0 : ((Int.tmod a0 2) == 1) = false := beq_eq_false_iff_ne.mpr c2
    have c2b1 : ((Int.tmod a0 2) != 1) = true := bne_iff_ne.mpr c2
    by_cases c3 : a0 = 0
    · rw [if_pos c3] at H
      have c3b0 : (a0 == 0) = true := beq_iff_eq.mpr c3
      have c3b1 : (a0 != 0) = false := bne_eq_false_iff_eq.mpr c3
      clear c3
      simp only [Option.some.injEq, Prod.mk.injEq] at H
      obtain ⟨rfl, rfl⟩ := H
      go_enter Try.func31, Try.ntmps31
      go_wp2
      go_ret2
      exact ⟨by first | rfl | (simp; done) | (simp [*]; done), by repeat (first | exact Drawn0.refl _ | apply Drawn0.step)⟩
    · rw [if_neg c3] at H
      have c3b0 : (a0 == 0) = false := beq_eq_false_iff_ne.mpr c3
      have c3b1 : (a0 != 0) = true := bne_iff_ne.mpr c3
      by_cases c4 : a0 ≥ 8589934592
      · rw [if_pos c4] at H
        have c4b0 : decide (8589934592 ≤ a0) = true := decide_eq_true c4
        clear c4
        simp only [Option.some.injEq, Prod.mk.injEq] at H
        obtain ⟨rfl, rfl⟩ := H
        go_enter Try.func31, Try.ntmps31
        go_wp2
        go_ret2
        exact ⟨by first | rfl | (simp; done) | (simp [*]; done), by repeat (first | exact Drawn0.refl _ | apply Drawn0.step)⟩
      · rw [if_neg c4] at H
        have c4b0 : decide (8589934592 ≤ a0) = false := decide_eq_false c4
        clear c4
        simp only [Option.some.injEq, Prod.mk.injEq] at H
        obtain ⟨rfl, rfl⟩ := H
        go_enter Try.func31, Try.ntmps31
        go_wp2
        go_ret2
        exact ⟨by first | rfl | (simp; done) | (simp [*]; done), by repeat (first | exact Drawn0.refl _ | apply Drawn0.step)⟩

/-! ### handloomref01_abs: function 58 -/
def handloomref01_abs.f (a0 : Int) : Option (Int) := if a0 < 0 then (some (IntKind.u64.wrap (wrap64 (-a0)))) else (some (IntKind.u64.wrap (a0)))
set_option maxHeartbeats 8000000 in
set_option maxRecDepth 100000 in
theorem handloomref01_abs.calls (a0 : Int) (r : Int) (w : World) (h : handloomref01_abs.f a0 = some r) :
    Calls Try.prog 58 #[.int .i64 a0] w fun e w' => e = .returned (.int .u64 r) ∧ Drawn0 w w' := by
  have H : (if a0 < 0 then (some (IntKind.u64.wrap (wrap64 (-a0)))) else (some (IntKind.u64.wrap (a0)))) = some r := h
  clear h
  by_cases c2 : a0 < 0
  · rw [if_pos c2] at H
    have c2b0 : decide (a0 < 0) = true := decide_eq_true c2
    clear c2
    obtain rfl := Option.some.inj H
    go_enter Try.func58, Try.ntmps58
    go_wp2
    go_ret
    exact ⟨by first | rfl | (simp; done) | (simp [*]; done), by repeat (first | exact Drawn0.refl _ | apply Drawn0.step)⟩
  · rw [if_neg c2] at H
    have c2b0 : decide (a0 < 0) = false := decide_eq_false c2
    clear c2
    obtain rfl := Option.some.inj H
    go_enter Try.func58, Try.ntmps58
    go_wp2
    go_ret
    exact ⟨by first | rfl | (simp; done) | (simp [*]; done), by repeat (first | exact Drawn0.refl _ | apply Drawn0.step)⟩

/-! ### handloomref01_Do: function 33 -/
mutual
def handloomref01_Do.j0 : Nat → Int → Int → Int → Bool → Option (Int)
  | 0, _, _, _, _ => none
  | k + 1, x0, x7, x8, x47 => if x47 = true then (some 0) else (if x8 = 0 then (handloomref01_Do.j1 k x0 x7 x8 0) else ((handloomref01_abs.f x7).bind fun t197 => ((handloomref01_abs.f x8).bind fun t198 => (if t198 = 0 then (none) else (if ((decide (x7 < 0)) != (decide (x8 < 0))) = true then (handloomref01_Do.j1 k x0 x7 x8 (wrap64 (-(wrap64 (IntKind.u64.wrap (Int.tdiv t197 t198)))))) else (handloomref01_Do.j1 k x0 x7 x8 (wrap64 (IntKind.u64.wrap (Int.tdiv t197 t198)))))))))
def handloomref01_Do.j1 : Nat → Int → Int → Int → Int → Option (Int)
  | 0, _, _, _, _ => none
  | k + 1, x0, x7, x8, x9 => if x0 = 3 then ((handloomref01_Wrap.f x9).bind fun t199 => (some t199)) else ((handloomref01_Wrap.f (wrap64 (IntKind.u64.wrap ((IntKind.u64.wrap (x7)) - (IntKind.u64.wrap ((IntKind.u64.wrap (x8)) * (IntKind.u64.wrap (x9)))))))).bind fun t200 => (some t200))
end
def handloomref01_Do.f (k : Nat) (a0 : Int) (a1 : Int) (a2 : Int) : Option (Int) := (handloomref01_Wrap.f a1).bind fun t192 => ((handloomref01_Wrap.f a2).bind fun t193 => (if a0 = 0 then ((handloomref01_Wrap.f (wrap64 (IntKind.u64.wrap ((IntKind.u64.wrap (t192)) + (IntKind.u64.wrap (t193)))))).bind fun t194 => (some t194)) else (if a0 = 1 then ((handloomref01_Wrap.f (wrap64 (IntKind.u64.wrap ((IntKind.u64.wrap (t192)) - (IntKind.u64.wrap (t193)))))).bind fun t195 => (some t195)) else (if a0 = 2 then ((handloomref01_Wrap.f (wrap64 (IntKind.u64.wrap ((IntKind.u64.wrap (t192)) * (IntKind.u64.wrap (t193)))))).bind fun t196 => (some t196)) else (if a0 = 3 then (handloomref01_Do.j0 k a0 t192 t193 false) else (handloomref01_Do.j0 k a0 t192 t193 (a0 != 4)))))))
theorem handloomref01_Do.mono_l : ∀ k, (∀ y0 y1 y2 y3, LeO (handloomref01_Do.j0 k y0 y1 y2 y3) (handloomref01_Do.j0 (k + 1) y0 y1 y2 y3)) ∧ (∀ y0 y1 y2 y3, LeO (handloomref01_Do.j1 k y0 y1 y2 y3) (handloomref01_Do.j1 (k + 1) y0 y1 y2 y3))
  | 0 => ⟨fun _ _ _ _ r h => by simp [handloomref01_Do.j0] at h, fun _ _ _ _ r h => by simp [handloomref01_Do.j1] at h⟩
  | k + 1 => by
    obtain ⟨ih0, ih1⟩ := handloomref01_Do.mono_l k
    refine ⟨?_, ?_⟩
    · intro y0 y1 y2 y3
      unfold handloomref01_Do.j0
      repeat' first
      | (with_reducible exact ih0 _ _ _ _)
      | (with_reducible exact ih1 _ _ _ _)
      | (with_reducible exact LeO.refl _)
      | (with_reducible exact LeO.none _)
      | (with_reducible refine LeO.ite ?_ ?_)
      | (with_reducible refine LeO.bind ?_ (fun _ => ?_))
      | exact ih0 _ _ _ _
      | exact ih1 _ _ _ _
      | exact LeO.none _
      | refine LeO.ite ?_ ?_
      | refine LeO.bind ?_ (fun _ => ?_)
    · intro y0 y1 y2 y3
      unfold handloomref01_Do.j1
      repeat' first
      | (with_reducible exact ih0 _ _ _ _)
      | (with_reducible exact ih1 _ _ _ _)
      | (with_reducible exact LeO.refl _)
      | (with_reducible exact LeO.none _)
      | (with_reducible refine LeO.ite ?_ ?_)
      | (with_reducible refine LeO.bind ?_ (fun _ => ?_))
      | exact ih0 _ _ _ _
      | exact ih1 _ _ _ _
      | exact LeO.none _
      | refine LeO.ite ?_ ?_
      | refine LeO.bind ?_ (fun _ => ?_)
theorem handloomref01_Do.mono : ∀ a0 a1 a2 k, LeO (handloomref01_Do.f k a0 a1 a2) (handloomref01_Do.f (k + 1) a0 a1 a2) := by
  intro a0 a1 a2 k
  obtain ⟨ih0, ih1⟩ := handloomref01_Do.mono_l k
  unfold handloomref01_Do.f
  repeat' first
      | (with_reducible exact ih0 _ _ _ _)
      | (with_reducible exact ih1 _ _ _ _)
      | (with_reducible exact LeO.refl _)
      | (with_reducible exact LeO.none _)
      | (with_reducible refine LeO.ite ?_ ?_)
      | (with_reducible refine LeO.bind ?_ (fun _ => ?_))
      | exact ih0 _ _ _ _
      | exact ih1 _ _ _ _
      | exact LeO.none _
      | refine LeO.ite ?_ ?_
      | refine LeO.bind ?_ (fun _ => ?_)
set_option maxHeartbeats 8000000 in
set_option maxRecDepth 100000 in
theorem handloomref01_Do.calls (k : Nat) (a0 : Int) (a1 : Int) (a2 : Int) (r : Int) (w : World) (h : handloomref01_Do.f k a0 a1 a2 = some r) :
    Calls Try.prog 33 #[.int .i64 a0, .int .i64 a1, .int .i64 a2] w fun e w' => e = .returned (.int .i64 r) ∧ Drawn0 w w' := by
  have H : ((handloomref01_Wrap.f a1).bind fun t192 => ((handloomref01_Wrap.f a2).bind fun t193 => (if a0 = 0 then ((handloomref01_Wrap.f (wrap64 (IntKind.u64.wrap ((IntKind.u64.wrap (t192)) + (IntKind.u64.wrap (t193)))))).bind fun t194 => (some t194)) else (if a0 = 1 then ((handloomref01_Wrap.f (wrap64 (IntKind.u64.wrap ((IntKind.u64.wrap (t192)) - (IntKind.u64.wrap (t193)))))).bind fun t195 => (some t195)) else (if a0 = 2 then ((handloomref01_Wrap.f (wrap64 (IntKind.u64.wrap ((IntKind.u64.wrap (t192)) * (IntKind.u64.wrap (t193)))))).bind fun t196 => (some t196)) else (if a0 = 3 then (handloomref01_Do.j0 k a0 t192 t193 false) else (handloomref01_Do.j0 k a0 t192 t193 (a0 != 4)))))))) = some r := h
  clear h
  replace H := Option.bind_eq_some_iff.mp H
  obtain ⟨t192, A40, H⟩ := H
  replace H : ((handloomref01_Wrap.f a2).bind fun t193 => (if a0 = 0 then ((handloomref01_Wrap.f (wrap64 (IntKind.u64.wrap ((IntKind.u64.wrap (t192)) + (IntKind.u64.wrap (t193)))))).bind fun t194 => (some t194)) else (if a0 = 1 then ((handloomref01_Wrap.f (wrap64 (IntKind.u64.wrap ((IntKind.u64.wrap (t192)) - (IntKind.u64.wrap (t193)))))).bind fun t195 => (some t195)) else (if a0 = 2 then ((handloomref01_Wrap.f (wrap64 (IntKind.u64.wrap ((IntKind.u64.wrap (t192)) * (IntKind.u64.wrap (t193)))))).bind fun t196 => (some t196)) else (if a0 = 3 then (handloomref01_Do.j0 k a0 t192 t193 false) else (handloomref01_Do.j0 k a0 t192 t193 (a0 != 4))))))) = some r := H
  have A4 := Aside0.mk A40
  clear A40
  replace H := Option.bind_eq_some_iff.mp H
  obtain ⟨t193, A50, H⟩ := H
  replace H : (if a0 = 0 then ((handloomref01_Wrap.f (wrap64 (IntKind.u64.wrap ((IntKind.u64.wrap (t192)) + (IntKind.u64.wrap (t193)))))).bind fun t194 => (some t194)) else (if a0 = 1 then ((handloomref01_Wrap.f (wrap64 (IntKind.u64.wrap ((IntKind.u64.wrap (t192)) - (IntKind.u64.wrap (t193)))))).bind fun t195 => (some t195)) else (if a0 = 2 then ((handloomref01_Wrap.f (wrap64 (IntKind.u64.wrap ((IntKind.u64.wrap (t192)) * (IntKind.u64.wrap (t193)))))).bind fun t196 => (some t196)) else (if a0 = 3 then (handloomref01_Do.j0 k a0 t192 t193 false) else (handloomref01_Do.j0 k a0 t192 t193 (a0 != 4)))))) = some r := H
  have A5 := Aside0.mk A50
  clear A50
  by_cases c6 : a0 = 0
  · rw [if_pos c6] at H
    have c6b0 : (a0 == 0) = true := beq_iff_eq.mpr c6
    have c6b1 : (a0 != 0) = false := bne_eq_false_iff_eq.mpr c6
    clear c6
    replace H := Option.bind_eq_some_iff.mp H
    obtain ⟨t194, A70, H⟩ := H
    replace H : (some t194) = some r := H
    have A7 := Aside0.mk A70
    clear A70
    obtain rfl := Option.some.inj H
    go_enter Try.func33, Try.ntmps33
    go_wp2_with (first | ((with_reducible refine gate_callee (f := 32) rfl ?_); refine goesL_ (some 11) rfl rfl Try.func32 (by kernel_rfl) rfl #[.int .i64 a1] rfl (by (try simp only [List.map_toArray, List.map_cons, List.map_nil]); first | done | rfl | (simp only [List.length_drop, List.length_take]; rfl)) ?_; (with_reducible refine (handloomref01_Wrap.calls a1 t192 _ A4.out).mono ?_); rintro e w' ⟨rfl, ⟨nd, rfl⟩⟩; refine ⟨_, rfl, ?_⟩) | ((with_reducible refine gate_callee (f := 32) rfl ?_); refine goesL_ (some 13) rfl rfl Try.func32 (by kernel_rfl) rfl #[.int .i64 a2] rfl (by (try simp only [List.map_toArray, List.map_cons, List.map_nil]); first | done | rfl | (simp only [List.length_drop, List.length_take]; rfl)) ?_; (with_reducible refine (handloomref01_Wrap.calls a2 t193 _ A5.out).mono ?_); rintro e w' ⟨rfl, ⟨nd, rfl⟩⟩; refine ⟨_, rfl, ?_⟩) | ((with_reducible refine gate_callee (f := 32) rfl ?_); refine goesL_ (some 23) rfl rfl Try.func32 (by kernel_rfl) rfl #[.int .i64 (wrap64 (IntKind.u64.wrap ((IntKind.u64.wrap (t192)) + (IntKind.u64.wrap (t193)))))] rfl (by (try simp only [List.map_toArray, List.map_cons, List.map_nil]); first | done | rfl | (simp only [List.length_drop, List.length_take]; rfl)) ?_; (with_reducible refine (handloomref01_Wrap.calls (wrap64 (IntKind.u64.wrap ((IntKind.u64.wrap (t192)) + (IntKind.u64.wrap (t193))))) t194 _ A7.out).mono ?_); rintro e w' ⟨rfl, ⟨nd, rfl⟩⟩; refine ⟨_, rfl, ?_⟩))
    go_ret
    exact ⟨by first | rfl | (simp; done) | (simp [*]; done), by repeat (first | exact Drawn0.refl _ | apply Drawn0.step)⟩
  · rw [if_neg c6] at H
    have c6b0 : (a0 == 0) = false := beq_eq_false_iff_ne.mpr c6
    have c6b1 : (a0 != 0) = true := bne_iff_ne.mpr c6
    by_cases c8 : a0 = 1
    · rw [if_pos c8] at H
      have c8b0 : (a0 == 1) = true := beq_iff_eq.mpr c8
      have c8b1 : (a0 != 1) = false := bne_eq_false_iff_eq.mpr c8
      clear c8
      replace H := Option.bind_eq_some_iff.mp H
      obtain ⟨t195, A90, H⟩ := H
      replace H : (some t195) = some r := H
      have A9 := Aside0.mk A90
      clear A90
      obtain rfl := Option.some.inj H
      go_enter Try.func33, Try.ntmps33
      go_wp2_with (first | ((with_reducible refine gate_callee (f := 32) rfl ?_); refine goesL_ (some 11) rfl rfl Try.func32 (by kernel_rfl) rfl #[.int .i64 a1] rfl (by (try simp only [List.map_toArray, List.map_cons, List.map_nil]); first | done | rfl | (simp only [List.length_drop, List.length_take]; rfl)) ?_; (with_reducible refine (handloomref01_Wrap.calls a1 t192 _ A4.out).mono ?_); rintro e w' ⟨rfl, ⟨nd, rfl⟩⟩; refine ⟨_, rfl, ?_⟩) | ((with_reducible refine gate_callee (f := 32) rfl ?_); refine goesL_ (some 13) rfl rfl Try.func32 (by kernel_rfl) rfl #[.int .i64 a2] rfl (by (try simp only [List.map_toArray, List.map_cons, List.map_nil]); first | done | rfl | (simp only [List.length_drop, List.length_take]; rfl)) ?_; (with_reducible refine (handloomref01_Wrap.calls a2 t193 _ A5.out).mono ?_); rintro e w' ⟨rfl, ⟨nd, rfl⟩⟩; refine ⟨_, rfl, ?_⟩) | ((with_reducible refine gate_callee (f := 32) rfl ?_); refine goesL_ (some 32) rfl rfl Try.func32 (by kernel_rfl) rfl #[.int .i64 (wrap64 (IntKind.u64.wrap ((IntKind.u64.wrap (t192)) - (IntKind.u64.wrap (t193)))))] rfl (by (try simp only [List.map_toArray, List.map_cons, List.map_nil]); first | done | rfl | (simp only [List.length_drop, List.length_take]; rfl)) ?_; (with_reducible refine (handloomref01_Wrap.calls (wrap64 (IntKind.u64.wrap ((IntKind.u64.wrap (t192)) - (IntKind.u64.wrap (t193))))) t195 _ A9.out).mono ?_); rintro e w' ⟨rfl, ⟨nd, rfl⟩⟩; refine ⟨_, rfl, ?_⟩))
      go_ret
      exact ⟨by first | rfl | (simp; done) | (simp [*]; done), by repeat (first | exact Drawn0.refl _ | apply Drawn0.step)⟩
    · rw [if_neg c8] at H
      have c8b0 : (a0 == 1) = false := beq_eq_false_iff_ne.mpr c8
      have c8b1 : (a0 != 1) = true := bne_iff_ne.mpr c8
      by_cases c10 : a0 = 2
      · rw [if_pos c10] at H
        have c10b0 : (a0 == 2) = true := beq_iff_eq.mpr c10
        have c10b1 : (a0 != 2) = false := bne_eq_false_iff_eq.mpr c10
        clear c10
        replace H := Option.bind_eq_some_iff.mp H
        obtain ⟨t196, A110, H⟩ := H
        replace H : (some t196) = some r := H
        have A11 := Aside0.mk A110
        clear A110
        obtain rfl := Option.some.inj H
        go_enter Try.func33, Try.ntmps33
        go_wp2_with (first | ((with_reducible refine gate_callee (f := 32) rfl ?_); refine goesL_ (some 11) rfl rfl Try.func32 (by kernel_rfl) rfl #[.int .i64 a1] rfl (by (try simp only [List.map_toArray, List.map_cons, List.map_nil]); first | done | rfl | (simp only [List.length_drop, List.length_take]; rfl)) ?_; (with_reducible refine (handloomref01_Wrap.calls a1 t192 _ A4.out).mono ?_); rintro e w' ⟨rfl, ⟨nd, rfl⟩⟩; refine ⟨_, rfl, ?_⟩) | ((with_reducible refine gate_callee (f := 32) rfl ?_); refine goesL_ (some 13) rfl rfl Try.func32 (by kernel_rfl) rfl #[.int .i64 a2] rfl (by (try simp only [List.map_toArray, List.map_cons, List.map_nil]); first | done | rfl | (simp only [List.length_drop, List.length_take]; rfl)) ?_; (with_reducible refine (handloomref01_Wrap.calls a2 t193 _ A5.out).mono ?_); rintro e w' ⟨rfl, ⟨nd, rfl⟩⟩; refine ⟨_, rfl, ?_⟩) | ((with_reducible refine gate_callee (f := 32) rfl ?_); refine goesL_ (some 41) rfl rfl Try.func32 (by kernel_rfl) rfl #[.int .i64 (wrap64 (IntKind.u64.wrap ((IntKind.u64.wrap (t192)) * (IntKind.u64.wrap (t193)))))] rfl (by (try simp only [List.map_toArray, List.map_cons, List.map_nil]); first | done | rfl | (simp only [List.length_drop, List.length_take]; rfl)) ?_; (with_reducible refine (handloomref01_Wrap.calls (wrap64 (IntKind.u64.wrap ((IntKind.u64.wrap (t192)) * (IntKind.u64.wrap (t193))))) t196 _ A11.out).mono ?_); rintro e w' ⟨rfl, ⟨nd, rfl⟩⟩; refine ⟨_, rfl, ?_⟩))
        go_ret
        exact ⟨by first | rfl | (simp; done) | (simp [*]; done), by repeat (first | exact Drawn0.refl _ | apply Drawn0.step)⟩
      · rw [if_neg c10] at H
        have c10b0 : (a0 == 2) = false := beq_eq_false_iff_ne.mpr c10
        have c10b1 : (a0 != 2) = true := bne_iff_ne.mpr c10
        have HC12 := Aside0.mk H
        clear H
        go_enter Try.func33, Try.ntmps33
        go_upto_region 10 with (first | ((with_reducible refine gate_callee (f := 32) rfl ?_); refine goesL_ (some 11) rfl rfl Try.func32 (by kernel_rfl) rfl #[.int .i64 a1] rfl (by (try simp only [List.map_toArray, List.map_cons, List.map_nil]); first | done | rfl | (simp only [List.length_drop, List.length_take]; rfl)) ?_; (with_reducible refine (handloomref01_Wrap.calls a1 t192 _ A4.out).mono ?_); rintro e w' ⟨rfl, ⟨nd, rfl⟩⟩; refine ⟨_, rfl, ?_⟩) | ((with_reducible refine gate_callee (f := 32) rfl ?_); refine goesL_ (some 13) rfl rfl Try.func32 (by kernel_rfl) rfl #[.int .i64 a2] rfl (by (try simp only [List.map_toArray, List.map_cons, List.map_nil]); first | done | rfl | (simp only [List.length_drop, List.length_take]; rfl)) ?_; (with_reducible refine (handloomref01_Wrap.calls a2 t193 _ A5.out).mono ?_); rintro e w' ⟨rfl, ⟨nd, rfl⟩⟩; refine ⟨_, rfl, ?_⟩))
        (try simp only [Act.put, List.setIfInBounds_toArray, List.set_cons_zero, List.set_cons_succ])
        go_cut [47] (fun v47 wc => ∃ (kq : Nat) (x47_11 : Bool), v47 = .bool x47_11 ∧ Aside0 (handloomref01_Do.j0 kq a0 t192 t193 x47_11 = some r) ∧ Aside0 (kq ≤ k) ∧ Drawn0 w wc)
        case first =>
          have H := HC12.out
          clear HC12
          by_cases c13 : a0 = 3
          · rw [if_pos c13] at H
            have c13b0 : (a0 == 3) = true := beq_iff_eq.mpr c13
            have c13b1 : (a0 != 3) = false := bne_eq_false_iff_eq.mpr c13
            clear c13
            (first | rw [c13b0] | (simp only [i64_w, i32_w]; rw [c13b0]) | skip)
            have H' := Aside0.mk H
            clear H
            go_wp2
            go_meet
            case rel => exact ⟨_, (false), (by first | rfl | (simp; done) | (simp [*]; done)), H', ⟨by first | omega | exact Nat.le_refl _⟩, by repeat (first | exact Drawn0.refl _ | apply Drawn0.step)⟩
          · rw [if_neg c13] at H
            have c13b0 : (a0 == 3) = false := beq_eq_false_iff_ne.mpr c13
            have c13b1 : (a0 != 3) = true := bne_iff_ne.mpr c13
            (first | rw [c13b0] | (simp only [i64_w, i32_w]; rw [c13b0]) | skip)
            have H' := Aside0.mk H
            clear H
            go_wp2
            go_meet
            case rel => exact ⟨_, ((a0 != 4)), (by first | rfl | (simp; done) | (simp [*]; done)), H', ⟨by first | omega | exact Nat.le_refl _⟩, by repeat (first | exact Drawn0.refl _ | apply Drawn0.step)⟩
        case rest =>
          clear HC12
          try clear c1
          try clear p2
          try clear c3
          try clear c6
          try clear c6b0
          try clear c6b1
          try clear p6
          try clear c8
          try clear c8b0
          try clear c8b1
          try clear c10
          try clear c10b0
          try clear c10b1
          try clear c13
          try clear c13b0
          try clear c13b1
          obtain ⟨kq, x47_11, rfl, HA, HJ11, ⟨mc11, rfl⟩⟩ := hcut
          cases kq with
          | zero => exact absurd HA.out (by simp [handloomref01_Do.j0])
          | succ kj11 =>
            have H := HA.out
            clear HA
            simp only [handloomref01_Do.j0] at H
            by_cases c14 : x47_11 = true
            · subst c14
              have H1 : (some 0) = some r := by rw [if_pos rfl] at H; exact H
              clear H
              have H := H1
              clear H1
              obtain rfl := Option.some.inj H
              go_wp2
              go_ret
              exact ⟨by first | rfl | (simp; done) | (simp [*]; done), by repeat (first | exact Drawn0.refl _ | apply Drawn0.step)⟩
            · replace c14 := Bool.eq_false_iff.mpr c14
              subst c14
              have H1 : (if t193 = 0 then (handloomref01_Do.j1 kj11 a0 t192 t193 0) else ((handloomref01_abs.f t192).bind fun t197 => ((handloomref01_abs.f t193).bind fun t198 => (if t198 = 0 then (none) else (if ((decide (t192 < 0)) != (decide (t193 < 0))) = true then (handloomref01_Do.j1 kj11 a0 t192 t193 (wrap64 (-(wrap64 (IntKind.u64.wrap (Int.tdiv t197 t198)))))) else (handloomref01_Do.j1 kj11 a0 t192 t193 (wrap64 (IntKind.u64.wrap (Int.tdiv t197 t198))))))))) = some r := by rw [if_neg (show ¬ (false = true) by decide)] at H; exact H
              clear H
              have H := H1
              clear H1
              have HC15 := Aside0.mk H
              clear H
              go_upto_if 49 with (fail)
              go_cut [9] (fun v9 wc => ∃ (kq : Nat) (x9_14 : Int), v9 = .int .i64 x9_14 ∧ Aside0 (handloomref01_Do.j1 kq a0 t192 t193 x9_14 = some r) ∧ Aside0 (kq ≤ kj11) ∧ Drawn0 w wc)
              case first =>
                have H := HC15.out
                clear HC15
                by_cases c16 : t193 = 0
                · rw [if_pos c16] at H
                  have c16b0 : (t193 == 0) = true := beq_iff_eq.mpr c16
                  have c16b1 : (t193 != 0) = false := bne_eq_false_iff_eq.mpr c16
                  clear c16
                  (first | rw [c16b0] | (simp only [i64_w, i32_w]; rw [c16b0]) | skip)
                  have H' := Aside0.mk H
                  clear H
                  go_wp2
                  go_meet
                  case rel => exact ⟨_, (0), (by first | rfl | (simp; done) | (simp [*]; done)), H', ⟨by have := HJ11.out; first | omega | exact Nat.le_refl _⟩, by repeat (first | exact Drawn0.refl _ | apply Drawn0.step)⟩
                · rw [if_neg c16] at H
                  have c16b0 : (t193 == 0) = false := beq_eq_false_iff_ne.mpr c16
                  have c16b1 : (t193 != 0) = true := bne_iff_ne.mpr c16
                  (first | rw [c16b0] | (simp only [i64_w, i32_w]; rw [c16b0]) | skip)
                  replace H := Option.bind_eq_some_iff.mp H
                  obtain ⟨t197, A170, H⟩ := H
                  replace H : ((handloomref01_abs.f t193).bind fun t198 => (if t198 = 0 then (none) else (if ((decide (t192 < 0)) != (decide (t193 < 0))) = true then (handloomref01_Do.j1 kj11 a0 t192 t193 (wrap64 (-(wrap64 (IntKind.u64.wrap (Int.tdiv t197 t198)))))) else (handloomref01_Do.j1 kj11 a0 t192 t193 (wrap64 (IntKind.u64.wrap (Int.tdiv t197 t198))))))) = some r := H
                  have A17 := Aside0.mk A170
                  clear A170
                  replace H := Option.bind_eq_some_iff.mp H
                  obtain ⟨t198, A180, H⟩ := H
                  replace H : (if t198 = 0 then (none) else (if ((decide (t192 < 0)) != (decide (t193 < 0))) = true then (handloomref01_Do.j1 kj11 a0 t192 t193 (wrap64 (-(wrap64 (IntKind.u64.wrap (Int.tdiv t197 t198)))))) else (handloomref01_Do.j1 kj11 a0 t192 t193 (wrap64 (IntKind.u64.wrap (Int.tdiv t197 t198)))))) = some r := H
                  have A18 := Aside0.mk A180
                  clear A180
                  by_cases c19 : t198 = 0
                  · rw [if_pos c19] at H
                    exact absurd H (by simp)
                  · rw [if_neg c19] at H
                    have c19b0 : (t198 == 0) = false := beq_eq_false_iff_ne.mpr c19
                    have c19b1 : (t198 != 0) = true := bne_iff_ne.mpr c19
                    by_cases c20 : ((decide (t192 < 0)) != (decide (t193 < 0))) = true
                    · rw [if_pos c20] at H
                      have c20b0 : ((decide (t192 < 0)) != (decide (t193 < 0))) = true := c20
                      (try (have c20b1 : decide ((decide (t192 < 0)) = (decide (t193 < 0))) = false := by simpa using c20))
                      (try (have c20b2 : ((decide (t192 < 0)) == (decide (t193 < 0))) = false := by simpa using c20))
                      (try (have c20b3 : ¬ ((decide (t192 < 0)) = (decide (t193 < 0))) := by simpa using c20))
                      clear c20
                      have H' := Aside0.mk H
                      clear H
                      go_wp2_with (first | ((with_reducible refine gate_callee (f := 58) rfl ?_); refine goesL_ (some 51) rfl rfl Try.func58 (by kernel_rfl) rfl #[.int .i64 t192] rfl (by (try simp only [List.map_toArray, List.map_cons, List.map_nil]); first | done | rfl | (simp only [List.length_drop, List.length_take]; rfl)) ?_; (with_reducible refine (handloomref01_abs.calls t192 t197 _ A17.out).mono ?_); rintro e w' ⟨rfl, ⟨nd, rfl⟩⟩; refine ⟨_, rfl, ?_⟩) | ((with_reducible refine gate_callee (f := 58) rfl ?_); refine goesL_ (some 53) rfl rfl Try.func58 (by kernel_rfl) rfl #[.int .i64 t193] rfl (by (try simp only [List.map_toArray, List.map_cons, List.map_nil]); first | done | rfl | (simp only [List.length_drop, List.length_take]; rfl)) ?_; (with_reducible refine (handloomref01_abs.calls t193 t198 _ A18.out).mono ?_); rintro e w' ⟨rfl, ⟨nd, rfl⟩⟩; refine ⟨_, rfl, ?_⟩))
                      go_meet
                      case rel => exact ⟨_, (wrap64 (-(wrap64 (IntKind.u64.wrap (Int.tdiv t197 t198))))), (by first | rfl | (simp; done) | (simp [*]; done)), H', ⟨by have := HJ11.out; first | omega | exact Nat.le_refl _⟩, by repeat (first | exact Drawn0.refl _ | apply Drawn0.step)⟩
                    · rw [if_neg c20] at H
                      have c20b0 : ((decide (t192 < 0)) != (decide (t193 < 0))) = false := by simpa using c20
                      (try (have c20b1 : decide ((decide (t192 < 0)) = (decide (t193 < 0))) = true := by simpa using c20))
                      (try (have c20b2 : ((decide (t192 < 0)) == (decide (t193 < 0))) = true := by simpa using c20))
                      clear c20
                      have H' := Aside0.mk H
                      clear H
                      go_wp2_with (first | ((with_reducible refine gate_callee (f := 58) rfl ?_); refine goesL_ (some 51) rfl rfl Try.func58 (by kernel_rfl) rfl #[.int .i64 t192] rfl (by (try simp only [List.map_toArray, List.map_cons, List.map_nil]); first | done | rfl | (simp only [List.length_drop, List.length_take]; rfl)) ?_; (with_reducible refine (handloomref01_abs.calls t192 t197 _ A17.out).mono ?_); rintro e w' ⟨rfl, ⟨nd, rfl⟩⟩; refine ⟨_, rfl, ?_⟩) | ((with_reducible refine gate_callee (f := 58) rfl ?_); refine goesL_ (some 53) rfl rfl Try.func58 (by kernel_rfl) rfl #[.int .i64 t193] rfl (by (try simp only [List.map_toArray, List.map_cons, List.map_nil]); first | done | rfl | (simp only [List.length_drop, List.length_take]; rfl)) ?_; (with_reducible refine (handloomref01_abs.calls t193 t198 _ A18.out).mono ?_); rintro e w' ⟨rfl, ⟨nd, rfl⟩⟩; refine ⟨_, rfl, ?_⟩))
                      go_meet
                      case rel => exact ⟨_, (wrap64 (IntKind.u64.wrap (Int.tdiv t197 t198))), (by first | rfl | (simp; done) | (simp [*]; done)), H', ⟨by have := HJ11.out; first | omega | exact Nat.le_refl _⟩, by repeat (first | exact Drawn0.refl _ | apply Drawn0.step)⟩
              case rest =>
                clear HC15
                try clear c1
                try clear c2
                try clear p2
                try clear c3
                try clear c5
                try clear c6
                try clear c6b0
                try clear c6b1
                try clear p6
                try clear c8
                try clear c8b0
                try clear c8b1
                try clear c10
                try clear c10b0
                try clear c10b1
                try clear c11
                try clear c13
                try clear c13b0
                try clear c13b1
                try clear c14
                try clear c16
                try clear c16b0
                try clear c16b1
                try clear c19
                try clear c19b0
                try clear c19b1
                try clear c20
                try clear c20b0
                try clear c20b1
                try clear c20b2
                try clear p2
                try clear p6
                obtain ⟨kq, x9_14, rfl, HA, HJ14, ⟨mc14, rfl⟩⟩ := hcut
                cases kq with
                | zero => exact absurd HA.out (by simp [handloomref01_Do.j1])
                | succ kj14 =>
                  have H := HA.out
                  clear HA
                  simp only [handloomref01_Do.j1] at H
                  by_cases c21 : a0 = 3
                  · rw [if_pos c21] at H
                    have c21b0 : (a0 == 3) = true := beq_iff_eq.mpr c21
                    have c21b1 : (a0 != 3) = false := bne_eq_false_iff_eq.mpr c21
                    clear c21
                    replace H := Option.bind_eq_some_iff.mp H
                    obtain ⟨t199, A220, H⟩ := H
                    replace H : (some t199) = some r := H
                    have A22 := Aside0.mk A220
                    clear A220
                    obtain rfl := Option.some.inj H
                    go_wp2_with (first | ((with_reducible refine gate_callee (f := 32) rfl ?_); refine goesL_ (some 66) rfl rfl Try.func32 (by kernel_rfl) rfl #[.int .i64 x9_14] rfl (by (try simp only [List.map_toArray, List.map_cons, List.map_nil]); first | done | rfl | (simp only [List.length_drop, List.length_take]; rfl)) ?_; (with_reducible refine (handloomref01_Wrap.calls x9_14 t199 _ A22.out).mono ?_); rintro e w' ⟨rfl, ⟨nd, rfl⟩⟩; refine ⟨_, rfl, ?_⟩))
                    go_ret
                    exact ⟨by first | rfl | (simp; done) | (simp [*]; done), by repeat (first | exact Drawn0.refl _ | apply Drawn0.step)⟩
                  · rw [if_neg c21] at H
                    have c21b0 : (a0 == 3) = false := beq_eq_false_iff_ne.mpr c21
                    have c21b1 : (a0 != 3) = true := bne_iff_ne.mpr c21
                    replace H := Option.bind_eq_some_iff.mp H
                    obtain ⟨t200, A230, H⟩ := H
                    replace H : (some t200) = some r := H
                    have A23 := Aside0.mk A230
                    clear A230
                    obtain rfl := Option.some.inj H
                    go_wp2_with (first | ((with_reducible refine gate_callee (f := 32) rfl ?_); refine goesL_ (some 76) rfl rfl Try.func32 (by kernel_rfl) rfl #[.int .i64 (wrap64 (IntKind.u64.wrap ((IntKind.u64.wrap (t192)) - (IntKind.u64.wrap ((IntKind.u64.wrap (t193)) * (IntKind.u64.wrap (x9_14)))))))] rfl (by (try simp only [List.map_toArray, List.map_cons, List.map_nil]); first | done | rfl | (simp only [List.length_drop, List.length_take]; rfl)) ?_; (with_reducible refine (handloomref01_Wrap.calls (wrap64 (IntKind.u64.wrap ((IntKind.u64.wrap (t192)) - (IntKind.u64.wrap ((IntKind.u64.wrap (t193)) * (IntKind.u64.wrap (x9_14))))))) t200 _ A23.out).mono ?_); rintro e w' ⟨rfl, ⟨nd, rfl⟩⟩; refine ⟨_, rfl, ?_⟩))
                    go_ret
                    exact ⟨by first | rfl | (simp; done) | (simp [*]; done), by repeat (first | exact Drawn0.refl _ | apply Drawn0.step)⟩

end Go.Proofs.Ytlemgfcopedjhaa.PWord
