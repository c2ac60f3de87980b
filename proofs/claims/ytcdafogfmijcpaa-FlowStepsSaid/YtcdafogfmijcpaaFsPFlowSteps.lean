/-
  FlowSteps, the plain law.
-/
import Derived.Test.YtcdafogfmijcpaaFsMC
import Derived.Test.YtcdafogfmijcpaaFsO
namespace Go.Proofs.Ytcdafogfmijcpaa.M
open Go.Proofs.YtcdafogfmijcpaaW.Ah Go.Proofs.Ytcdafogfmijcpaa
set_option linter.unusedVariables false
set_option linter.unusedSimpArgs false
set_option maxHeartbeats 1000000

theorem b_cond {α : Type} (b : Bool) (x y : α) : (bif b then x else y) = if b = true then x else y := by cases b <;> rfl
theorem fit19_M (F : Nat) (i : api_Inst) : R19_Fit F i = some (fitI i) := by
  obtain ⟨op, a, b, c⟩ := i
  by_cases h0 : 0 ≤ op ∧ op < 16
  · obtain ⟨h1, h2⟩ := h0
    obtain ⟨k, rfl⟩ := Int.eq_ofNat_of_zero_le h1
    have hk : k < 16 := by omega
    match k, hk with
    | 0, _ => simp only [R19_Fit, R19_number, R19_below, joinM, fitI, rowsT, b_cond]; simp; first | done | ((repeat' split) <;> (first | (refine congrArg some ?_; rw [Bool.eq_iff_iff]; simp; omega) | (rw [Bool.eq_iff_iff]; simp; omega) | (simp; omega)))
    | 1, _ => simp only [R19_Fit, R19_number, R19_below, joinM, fitI, rowsT, b_cond]; simp; first | done | ((repeat' split) <;> (first | (refine congrArg some ?_; rw [Bool.eq_iff_iff]; simp; omega) | (rw [Bool.eq_iff_iff]; simp; omega) | (simp; omega)))
    | 2, _ => simp only [R19_Fit, R19_number, R19_below, joinM, fitI, rowsT, b_cond]; simp; first | done | ((repeat' split) <;> (first | (refine congrArg some ?_; rw [Bool.eq_iff_iff]; simp; omega) | (rw [Bool.eq_iff_iff]; simp; omega) | (simp; omega)))
    | 3, _ => simp only [R19_Fit, R19_number, R19_below, joinM, fitI, rowsT, b_cond]; simp; first | done | ((repeat' split) <;> (first | (refine congrArg some ?_; rw [Bool.eq_iff_iff]; simp; omega) | (rw [Bool.eq_iff_iff]; simp; omega) | (simp; omega)))
    | 4, _ => simp only [R19_Fit, R19_number, R19_below, joinM, fitI, rowsT, b_cond]; simp; first | done | ((repeat' split) <;> (first | (refine congrArg some ?_; rw [Bool.eq_iff_iff]; simp; omega) | (rw [Bool.eq_iff_iff]; simp; omega) | (simp; omega)))
    | 5, _ => simp only [R19_Fit, R19_number, R19_below, joinM, fitI, rowsT, b_cond]; simp; first | done | ((repeat' split) <;> (first | (refine congrArg some ?_; rw [Bool.eq_iff_iff]; simp; omega) | (rw [Bool.eq_iff_iff]; simp; omega) | (simp; omega)))
    | 6, _ => simp only [R19_Fit, R19_number, R19_below, joinM, fitI, rowsT, b_cond]; simp; first | done | ((repeat' split) <;> (first | (refine congrArg some ?_; rw [Bool.eq_iff_iff]; simp; omega) | (rw [Bool.eq_iff_iff]; simp; omega) | (simp; omega)))
    | 7, _ => simp only [R19_Fit, R19_number, R19_below, joinM, fitI, rowsT, b_cond]; simp; first | done | ((repeat' split) <;> (first | (refine congrArg some ?_; rw [Bool.eq_iff_iff]; simp; omega) | (rw [Bool.eq_iff_iff]; simp; omega) | (simp; omega)))
    | 8, _ => simp only [R19_Fit, R19_number, R19_below, joinM, fitI, rowsT, b_cond]; simp; first | done | ((repeat' split) <;> (first | (refine congrArg some ?_; rw [Bool.eq_iff_iff]; simp; omega) | (rw [Bool.eq_iff_iff]; simp; omega) | (simp; omega)))
    | 9, _ => simp only [R19_Fit, R19_number, R19_below, joinM, fitI, rowsT, b_cond]; simp; first | done | ((repeat' split) <;> (first | (refine congrArg some ?_; rw [Bool.eq_iff_iff]; simp; omega) | (rw [Bool.eq_iff_iff]; simp; omega) | (simp; omega)))
    | 10, _ => simp only [R19_Fit, R19_number, R19_below, joinM, fitI, rowsT, b_cond]; simp; first | done | ((repeat' split) <;> (first | (refine congrArg some ?_; rw [Bool.eq_iff_iff]; simp; omega) | (rw [Bool.eq_iff_iff]; simp; omega) | (simp; omega)))
    | 11, _ => simp only [R19_Fit, R19_number, R19_below, joinM, fitI, rowsT, b_cond]; simp; first | done | ((repeat' split) <;> (first | (refine congrArg some ?_; rw [Bool.eq_iff_iff]; simp; omega) | (rw [Bool.eq_iff_iff]; simp; omega) | (simp; omega)))
    | 12, _ => simp only [R19_Fit, R19_number, R19_below, joinM, fitI, rowsT, b_cond]; simp; first | done | ((repeat' split) <;> (first | (refine congrArg some ?_; rw [Bool.eq_iff_iff]; simp; omega) | (rw [Bool.eq_iff_iff]; simp; omega) | (simp; omega)))
    | 13, _ => simp only [R19_Fit, R19_number, R19_below, joinM, fitI, rowsT, b_cond]; simp; first | done | ((repeat' split) <;> (first | (refine congrArg some ?_; rw [Bool.eq_iff_iff]; simp; omega) | (rw [Bool.eq_iff_iff]; simp; omega) | (simp; omega)))
    | 14, _ => simp only [R19_Fit, R19_number, R19_below, joinM, fitI, rowsT, b_cond]; simp; first | done | ((repeat' split) <;> (first | (refine congrArg some ?_; rw [Bool.eq_iff_iff]; simp; omega) | (rw [Bool.eq_iff_iff]; simp; omega) | (simp; omega)))
    | 15, _ => simp only [R19_Fit, R19_number, R19_below, joinM, fitI, rowsT, b_cond]; simp; first | done | ((repeat' split) <;> (first | (refine congrArg some ?_; rw [Bool.eq_iff_iff]; simp; omega) | (rw [Bool.eq_iff_iff]; simp; omega) | (simp; omega)))
  · have hf : fitI ⟨op, a, b, c⟩ = false := by
      unfold fitI
      rcases Int.lt_or_le op 0 with h | h
      · simp [show ¬ 0 ≤ op by omega]
      · simp [show ¬ op < 16 by omega]
    rw [hf]
    have hne : ∀ k : Int, 0 ≤ k → k < 16 → ¬ op = k := fun k g1 g2 e => h0 (by omega)
    simp [R19_Fit, joinM, b_cond, hne]

theorem rng_M (i : api_Inst) (hi : fitI i = true) : ∃ k : Nat, k < 16 ∧ i.Op = k ∧ rowI i = rowsT.getD k row0 ∧ (rowsT.getD k row0).l0 ≤ i.A ∧ i.A ≤ (rowsT.getD k row0).m0 := by
  have h := hi
  unfold fitI at h
  simp only [Bool.and_eq_true, decide_eq_true_eq] at h
  obtain ⟨h1, h2, ⟨h3, h4⟩, _⟩ := h
  exact ⟨i.Op.toNat, by omega, by omega, by unfold rowI; rw [if_pos hi], h3, h4⟩
theorem ops_M (F : Nat) (a : Int) : ∃ l t, R09_Ops F a = some (l, t) ∧ (l.length : Int) = wantsP a := by
  unfold R09_Ops wantsP joinM
  simp only [b_cond, R09_Bool]
  by_cases h8 : a = 8
  · subst h8; exact ⟨_, _, rfl, rfl⟩
  · by_cases h11 : a = 11
    · subst h11; exact ⟨_, _, rfl, rfl⟩
    · rw [if_neg h8, if_neg h11]
      simp [h8, h11]

      (repeat' split) <;> exact ⟨_, ⟨_, rfl⟩, rfl⟩
theorem takes19_M (F : Nat) (i : api_Inst) (hi : fitI i = true) : R19_Takes F i = some (takesP i, putsP i) := by
  obtain ⟨k, hk, hop, hrow, hA, hB⟩ := rng_M i hi
  unfold R19_Takes takesP putsP
  rw [fit19_M, hi, hrow]
  simp only [if_true, Option.bind_some, Bool.not_true, cond_false, joinM, hop]
  have hk16 : k = 0 ∨ k = 1 ∨ k = 2 ∨ k = 3 ∨ k = 4 ∨ k = 5 ∨ k = 6 ∨ k = 7 ∨ k = 8 ∨ k = 9 ∨ k = 10 ∨ k = 11 ∨ k = 12 ∨ k = 13 ∨ k = 14 ∨ k = 15 := by omega
  rcases hk16 with rfl | rfl | rfl | rfl | rfl | rfl | rfl | rfl | rfl | rfl | rfl | rfl | rfl | rfl | rfl | rfl
  · simp [b_cond, rowsT]
  · simp [b_cond, rowsT]
  · simp [b_cond, rowsT]
  · simp [b_cond, rowsT]
  · simp [b_cond, rowsT]
  · obtain ⟨l, t, h1, h2⟩ := ops_M F i.A
    simp [b_cond, h1, h2, rowsT]
  · simp [b_cond, rowsT]
  · simp [b_cond, rowsT]
  · have e1 : (rowsT.getD 8 row0).l0 = 1 := rfl
    have e2 : (rowsT.getD 8 row0).m0 = 8192 := rfl
    rw [e1] at hA
    rw [e2] at hB
    have hw : IntKind.i64.wrap (i.A + 1) = i.A + 1 := wrap64_id (by omega) (by omega)
    simp [b_cond, rowsT, hw]
  · simp [b_cond, rowsT]
  · simp [b_cond, rowsT]
  · simp [b_cond, rowsT]
  · simp [b_cond, rowsT]
  · simp [b_cond, rowsT]
  · simp [b_cond, rowsT]
  · simp [b_cond, rowsT]
theorem goes19_M (F : Nat) (i : api_Inst) (hi : fitI i = true) : R19_Goes F i = some (goesP i, nextP i) := by
  obtain ⟨k, hk, hop, hrow, hA, hB⟩ := rng_M i hi
  unfold R19_Goes goesP nextP
  rw [fit19_M, hi, hrow]
  simp only [if_true, Option.bind_some, Bool.not_true, cond_false, joinM, hop]
  have hk16 : k = 0 ∨ k = 1 ∨ k = 2 ∨ k = 3 ∨ k = 4 ∨ k = 5 ∨ k = 6 ∨ k = 7 ∨ k = 8 ∨ k = 9 ∨ k = 10 ∨ k = 11 ∨ k = 12 ∨ k = 13 ∨ k = 14 ∨ k = 15 := by omega
  rcases hk16 with rfl | rfl | rfl | rfl | rfl | rfl | rfl | rfl | rfl | rfl | rfl | rfl | rfl | rfl | rfl | rfl
  · simp [b_cond, rowsT, allP]
  · simp [b_cond, rowsT, allP]
  · simp [b_cond, rowsT, allP]
  · simp [b_cond, rowsT, allP]
  · simp [b_cond, rowsT, allP]
  · simp [b_cond, rowsT, allP]
  · simp [b_cond, rowsT, allP]
  · simp [b_cond, rowsT, allP]
  · simp [b_cond, rowsT, allP]
  · simp [b_cond, rowsT, allP]
  · simp [b_cond, rowsT, allP]
  · simp [b_cond, rowsT, allP]
  · simp [b_cond, rowsT, allP]
  · simp [b_cond, rowsT, allP]
  · simp [b_cond, rowsT, allP]
  · simp [b_cond, rowsT, allP]
end Go.Proofs.Ytcdafogfmijcpaa.M
namespace Go.Proofs.Ytcdafogfmijcpaa.M
open Go.Proofs.YtcdafogfmijcpaaW.Ah Go.Proofs.Ytcdafogfmijcpaa
set_option linter.unusedVariables false
set_option linter.unusedSimpArgs false

theorem ltOne (k : Nat) : decide ((k : Int) < 1) = !decide (1 ≤ k) := by
  by_cases h : 1 ≤ k
  · rw [decide_eq_true h, decide_eq_false (by omega)]; rfl
  · rw [decide_eq_false h, decide_eq_true (by omega)]; rfl
theorem fit20_L1 (F : Nat) (f : api_Func) (K : Unit → Option Bool) (b : Bool) (hK : K () = some b) (hl : f.Code.length ≤ 2 ^ 47) : ∀ (m q : Nat), q ≤ f.Code.length → f.Code.length + 1 ≤ m + q → R20_Fit_L1 F f K m q = some ((f.Code.drop q).all fitI && b)
  | 0, q, h1, h2 => by omega
  | m + 1, q, h1, h2 => by
    rw [R20_Fit_L1]
    by_cases h : q < f.Code.length
    · rw [decide_eq_true (by omega), cond_true, idx_lt h, Option.bind_some, fit19_M, Option.bind_some, List.drop_eq_getElem_cons h, List.all_cons]
      cases fitI f.Code[q] with
      | false => rfl
      | true =>
        rw [Bool.not_true, cond_false, wrap_succ q (by omega), Bool.true_and]
        exact fit20_L1 F f K b hK hl m (q + 1) h (by omega)
    · rw [decide_eq_false (by omega), cond_false, hK, List.drop_of_length_le (by omega)]; rfl
theorem fit20_L0 (F : Nat) (c : api_Code) (K : Unit → Option Bool) (b : Bool) (hK : K () = some b) (hs : Small c) (hF : 2 ^ 47 + 1 ≤ F) : ∀ (m q : Nat), q ≤ c.Funs.length → c.Funs.length + 1 ≤ m + q → R20_Fit_L0 F c K m q = some ((c.Funs.drop q).all fitFun && b)
  | 0, q, h1, h2 => by omega
  | m + 1, q, h1, h2 => by
    have hfl := hs.f
    rw [R20_Fit_L0]
    by_cases h : q < c.Funs.length
    · have hfc := hs.fc _ (List.getElem_mem h)
      rw [decide_eq_true (by omega), cond_true, idx_lt h, Option.bind_some, List.drop_eq_getElem_cons h, List.all_cons]
      generalize c.Funs[q] = f at hfc
      have key := fit20_L1 F f (fun _ => R20_Fit_L0 F c K m ((q + 1 : Nat) : Int)) _ (fit20_L0 F c K b hK hs hF m (q + 1) h (by omega)) hfc F 0 (by omega) (by omega)
      simp only [joinM]
      rw [wrap_succ q (by omega)]
      rw [show ((0 : Nat) : Int) = 0 from rfl] at key
      rw [key, List.drop_zero]
      have e1 : decide (64 < (f.Name.size : Int)) = !decide (f.Name.size ≤ 64) := by rw [Bool.eq_iff_iff]; simp; omega
      have e2 : decide (f.Params < 0) = !decide (0 ≤ f.Params) := by rw [Bool.eq_iff_iff]; simp
      have e3 : decide (6 < f.Params) = !decide (f.Params ≤ 6) := by rw [Bool.eq_iff_iff]; simp
      have e4 : decide (f.Slots < 0) = !decide (0 ≤ f.Slots) := by rw [Bool.eq_iff_iff]; simp
      have e5 : decide (8192 < f.Slots) = !decide (f.Slots ≤ 8192) := by rw [Bool.eq_iff_iff]; simp
      have e6 : decide ((f.Code.length : Int) < 1) = !decide (1 ≤ f.Code.length) := ltOne _
      have e7 : decide (1048576 < (f.Code.length : Int)) = !decide (f.Code.length ≤ 1048576) := by rw [Bool.eq_iff_iff]; simp; omega
      rw [e1, e2, e3, e4, e5, e6, e7]
      unfold fitFun
      cases decide (f.Name.size ≤ 64) <;> cases decide (0 ≤ f.Params) <;> cases decide (f.Params ≤ 6) <;> cases decide (0 ≤ f.Slots) <;> cases decide (f.Slots ≤ 8192) <;> cases decide (1 ≤ f.Code.length) <;> cases decide (f.Code.length ≤ 1048576) <;> cases f.Code.all fitI <;> simp
    · rw [decide_eq_false (by omega), cond_false, hK, List.drop_of_length_le (by omega)]; rfl
theorem fit20_L2 (F : Nat) (c : api_Code) (K : Unit → Option Bool) (b : Bool) (hK : K () = some b) (hs : Small c) : ∀ (m q : Nat), q ≤ c.Texts.length → c.Texts.length + 1 ≤ m + q → R20_Fit_L2 F c K m q = some ((c.Texts.drop q).all (fun t => decide (t.length ≤ 64)) && b)
  | 0, q, h1, h2 => by omega
  | m + 1, q, h1, h2 => by
    have hfl := hs.x
    rw [R20_Fit_L2]
    by_cases h : q < c.Texts.length
    · rw [decide_eq_true (by omega), cond_true, idx_lt h, Option.bind_some, List.drop_eq_getElem_cons h, List.all_cons]
      have e1 : decide (64 < ((c.Texts[q]).length : Int)) = !decide ((c.Texts[q]).length ≤ 64) := by rw [Bool.eq_iff_iff]; simp; omega
      rw [e1]
      cases decide ((c.Texts[q]).length ≤ 64) with
      | false => rfl
      | true =>
        rw [Bool.not_true, cond_false, wrap_succ q (by omega), Bool.true_and]
        exact fit20_L2 F c K b hK hs m (q + 1) h (by omega)
    · rw [decide_eq_false (by omega), cond_false, hK, List.drop_of_length_le (by omega)]; rfl
theorem fit20_L4 (F : Nat) (c : api_Code) (K : Unit → Option Bool) (b : Bool) (hK : K () = some b) {v : Nat} (hv : v < c.Tables.length) (hl : (c.Tables[v]).length ≤ 2 ^ 47) : ∀ (m q : Nat), q ≤ (c.Tables[v]).length → (c.Tables[v]).length + 1 ≤ m + q → R20_Fit_L4 F c v K m q = some (((c.Tables[v]).drop q).all (fun n => decide (-1 ≤ n) && decide (n ≤ 1048575)) && b)
  | 0, q, h1, h2 => by omega
  | m + 1, q, h1, h2 => by
    rw [R20_Fit_L4]
    rw [idx_lt hv, Option.bind_some]
    by_cases h : q < (c.Tables[v]).length
    · simp only [joinM]
      rw [decide_eq_true (by omega), cond_true, Option.bind_some, idx_lt h, Option.bind_some, Option.bind_some, idx_lt h, Option.bind_some, List.drop_eq_getElem_cons h, List.all_cons]
      generalize (c.Tables[v])[q] = n
      have e1 : decide (n < -1) = !decide (-1 ≤ n) := by rw [Bool.eq_iff_iff]; simp
      have e2 : decide (1048576 ≤ n) = !decide (n ≤ 1048575) := by rw [Bool.eq_iff_iff]; simp; omega
      rw [e1, e2, wrap_succ q (by omega), fit20_L4 F c K b hK hv hl m (q + 1) h (by omega)]
      cases decide (-1 ≤ n) <;> cases decide (n ≤ 1048575) <;> simp
    · rw [decide_eq_false (by omega), cond_false, hK, List.drop_of_length_le (by omega)]; rfl
theorem fit20_L3 (F : Nat) (c : api_Code) (hs : Small c) (hF : 2 ^ 47 + 1 ≤ F) : ∀ (m q : Nat), q ≤ c.Tables.length → c.Tables.length + 1 ≤ m + q → R20_Fit_L3 F c m q = some ((c.Tables.drop q).all fitTab)
  | 0, q, h1, h2 => by omega
  | m + 1, q, h1, h2 => by
    have hfl := hs.t
    rw [R20_Fit_L3]
    by_cases h : q < c.Tables.length
    · have hfc := hs.tc _ (List.getElem_mem h)
      have key := fit20_L4 F c (fun _ => R20_Fit_L3 F c m ((q + 1 : Nat) : Int)) _ (fit20_L3 F c hs hF m (q + 1) h (by omega)) h hfc F 0 (by omega) (by omega)
      rw [show ((0 : Nat) : Int) = 0 from rfl] at key
      simp only [joinM]
      rw [decide_eq_true (by omega), cond_true, idx_lt h, Option.bind_some, Option.bind_some]
      rw [wrap_succ q (by omega), key, List.drop_zero, List.drop_eq_getElem_cons h, List.all_cons]
      generalize c.Tables[q] = t
      have e1 : decide ((t.length : Int) < 1) = !decide (1 ≤ t.length) := ltOne _
      have e2 : decide (16 < (t.length : Int)) = !decide (t.length ≤ 16) := by rw [Bool.eq_iff_iff]; simp; omega
      rw [e1, e2]
      unfold fitTab
      cases decide (1 ≤ t.length) <;> cases decide (t.length ≤ 16) <;> cases (t.all fun n => decide (-1 ≤ n) && decide (n ≤ 1048575)) <;> simp
    · rw [decide_eq_false (by omega), cond_false, List.drop_of_length_le (by omega)]; rfl
theorem fit20_M {F : Nat} (c : api_Code) (hF : 2 ^ 47 + 1 ≤ F) (hs : Small c) : R20_Fit F c = some (fitC c) := by
  have hf := hs.f
  have hx := hs.x
  have ht := hs.t
  have k2 := fit20_L2 F c (fun _ => R20_Fit_L3 F c F ((0 : Nat) : Int)) _ (fit20_L3 F c hs hF F 0 (by omega) (by omega)) hs F 0 (by omega) (by omega)
  have k0 := fit20_L0 F c (fun _ => R20_Fit_L2 F c (fun _ => R20_Fit_L3 F c F ((0 : Nat) : Int)) F ((0 : Nat) : Int)) _ k2 hs hF F 0 (by omega) (by omega)
  rw [show ((0 : Nat) : Int) = 0 from rfl] at k0
  simp only [R20_Fit, joinM]
  rw [k0]
  simp only [List.drop_zero]
  have e1 : decide (80 < (c.Funs.length : Int)) = !decide (c.Funs.length ≤ 80) := by rw [Bool.eq_iff_iff]; simp; omega
  have e2 : decide (4096 < (c.Texts.length : Int)) = !decide (c.Texts.length ≤ 4096) := by rw [Bool.eq_iff_iff]; simp; omega
  have e3 : decide (65536 < (c.Tables.length : Int)) = !decide (c.Tables.length ≤ 65536) := by rw [Bool.eq_iff_iff]; simp; omega
  rw [e1, e2, e3]
  unfold fitC
  cases decide (c.Funs.length ≤ 80) <;> cases decide (c.Texts.length ≤ 4096) <;> cases decide (c.Tables.length ≤ 65536) <;> cases c.Funs.all fitFun <;> cases (c.Texts.all fun t => decide (t.length ≤ 64)) <;> cases c.Tables.all fitTab <;> rfl
end Go.Proofs.Ytcdafogfmijcpaa.M
namespace Go.Proofs.Ytcdafogfmijcpaa.M
open Go.Proofs.YtcdafogfmijcpaaW.Ah Go.Proofs.Ytcdafogfmijcpaa
set_option linter.unusedVariables false
set_option linter.unusedSimpArgs false

theorem specs_get (c : api_Code) : ∀ (l : List api_Func) (out : List (List (List Bool))), specsP c l = some out → out.length = l.length ∧ ∀ (k : Nat) (f : api_Func), l[k]? = some f → ∃ st, specP c f = some st ∧ out[k]? = some (rowsOf st)
  | [], out, h => by
    rw [specsP] at h; cases h
    exact ⟨rfl, fun k f hk => by simp at hk⟩
  | x :: l, out, h => by
    rw [specsP] at h
    cases hs : specP c x with
    | none => rw [hs] at h; cases h
    | some st =>
      rw [hs] at h
      cases hl : specsP c l with
      | none => rw [hl] at h; cases h
      | some o2 =>
        rw [hl] at h
        simp only [Option.some.injEq] at h
        subst h
        obtain ⟨h1, h2⟩ := specs_get c l o2 hl
        refine ⟨by rw [List.length_cons, List.length_cons, h1], fun k f hk => ?_⟩
        cases k with
        | zero => simp only [List.getElem?_cons_zero, Option.some.injEq] at hk; subst hk; exact ⟨st, hs, rfl⟩
        | succ k => simp only [List.getElem?_cons_succ] at hk ⊢; exact h2 k f hk
theorem spec_least {c : api_Code} {f : api_Func} {st : StF} (h : specP c f = some st) : Least f.Code.length f.Slots.toNat (List.replicate f.Params.toNat true) (stpC c f) st := leastP_ok _ _ _ _ h
theorem rows_get {st : StF} {k : Nat} {z : List Bool} (h : (rowsOf st)[k]? = some z) : ∃ r, st[k]? = some r ∧ z = r.getD [] := by
  unfold rowsOf at h
  rw [List.getElem?_map] at h
  cases hr : st[k]? with
  | none => rw [hr] at h; cases h
  | some r => rw [hr] at h; cases h; exact ⟨r, rfl, rfl⟩

/-- How an answer is. -/
structure OkOut (out : List (List (List Bool))) : Prop where
  l1 : out.length ≤ 80
  l2 : ∀ y ∈ out, y.length ≤ 2 ^ 20
  l3 : ∀ y ∈ out, ∀ z ∈ y, z.length ≤ 8192
theorem fit_each {c : api_Code} (h : fitC c = true) {f : api_Func} (hf : f ∈ c.Funs) : fitFun f = true := by
  unfold fitC at h
  simp only [Bool.and_eq_true, List.all_eq_true] at h
  exact h.2.1.1 f hf
theorem fit_len {c : api_Code} (h : fitC c = true) : c.Funs.length ≤ 80 ∧ c.Texts.length ≤ 4096 ∧ c.Tables.length ≤ 65536 := by
  unfold fitC at h
  simp only [Bool.and_eq_true, decide_eq_true_eq] at h
  exact ⟨h.1.1.1, h.1.1.2, h.1.2⟩
structure FitF (f : api_Func) : Prop where
  p0 : 0 ≤ f.Params
  p6 : f.Params ≤ 6
  s0 : 0 ≤ f.Slots
  s1 : f.Slots ≤ 8192
  c1 : 1 ≤ f.Code.length
  c2 : f.Code.length ≤ 2 ^ 20
  fit : ∀ (q : Nat) (i : api_Inst), f.Code[q]? = some i → fitI i = true
theorem fit_f {f : api_Func} (h : fitFun f = true) : FitF f := by
  unfold fitFun at h
  simp only [Bool.and_eq_true, decide_eq_true_eq, List.all_eq_true] at h
  obtain ⟨h1, ⟨⟨⟨h2, h3⟩, h4, h5⟩, h6, h7⟩, h8⟩ := h
  exact ⟨h2, h3, h4, h5, h6, by omega, fun q i hq => h8 i (List.mem_of_getElem? hq)⟩
theorem okOut {c : api_Code} (hft : fitC c = true) {out : List (List (List Bool))} (h : specsP c c.Funs = some out) : OkOut out := by
  obtain ⟨h1, h2⟩ := specs_get c _ _ h
  have h3 := fit_len hft
  have key : ∀ y ∈ out, ∃ f ∈ c.Funs, ∃ st, specP c f = some st ∧ y = rowsOf st := fun y hy => by
    obtain ⟨k, hk, he⟩ := List.mem_iff_getElem.1 hy
    obtain ⟨st, g1, g2⟩ := h2 k c.Funs[k] (List.getElem?_eq_getElem (by omega))
    rw [List.getElem?_eq_getElem hk, he] at g2
    exact ⟨_, List.getElem_mem _, st, g1, by simpa using g2⟩
  refine ⟨by omega, fun y hy => ?_, fun y hy z hz => ?_⟩
  · obtain ⟨f, hf, st, hs, rfl⟩ := key y hy
    have hl := (spec_least hs).1.len
    have := (fit_f (fit_each hft hf)).c2
    unfold rowsOf
    rw [List.length_map]; omega
  · obtain ⟨f, hf, st, hs, rfl⟩ := key y hy
    have hl := (spec_least hs).1.wf
    have := (fit_f (fit_each hft hf)).s1
    obtain ⟨k, hk⟩ := List.mem_iff_getElem?.1 hz
    obtain ⟨r, g1, rfl⟩ := rows_get hk
    cases r with
    | none => exact Nat.zero_le _
    | some x => have := hl k x g1; simp only [Option.getD_some]; omega
theorem flow_some {c : api_Code} (hs : smallC c = true) : ∃ r, flowP c = some r ∧ ((r = ([], 19) ∧ fitC c = false) ∨ (fitC c = true ∧ ((r = ([], 24) ∧ specsP c c.Funs = none) ∨ ∃ out, r = (out, 0) ∧ specsP c c.Funs = some out))) := by
  unfold flowP
  rw [if_pos hs]
  refine ⟨_, rfl, ?_⟩
  cases hf : fitC c with
  | false => exact .inl ⟨rfl, rfl⟩
  | true =>
    rw [if_pos rfl]
    refine .inr ⟨rfl, ?_⟩
    cases hsp : specsP c c.Funs with
    | none => exact .inl ⟨rfl, rfl⟩
    | some out => exact .inr ⟨out, rfl, rfl⟩
theorem flow_out {c : api_Code} {r : List (List (List Bool)) × Int} (h : flowP c = some r) : OkOut r.1 := by
  unfold flowP at h
  split at h
  · cases h
    split
    · rename_i hf
      cases hsp : specsP c c.Funs with
      | none => exact ⟨by simp, by simp, by simp⟩
      | some out => exact okOut hf hsp
    · exact ⟨by simp, by simp, by simp⟩
  · cases h
theorem small_w {c : api_Code} (w : W26 c) : smallC c = true := by
  obtain ⟨w1, w2, w3⟩ := w
  have hr : reachBytes ≤ 2 ^ 47 := by decide
  unfold smallC
  simp only [Bool.and_eq_true, decide_eq_true_eq, List.all_eq_true]
  exact ⟨⟨⟨⟨Nat.le_trans w1.1 hr, fun f hf => Nat.le_trans (w1.2 f hf).2.2.2.1 hr⟩, Nat.le_trans w2.1 hr⟩, Nat.le_trans w3.1 hr⟩, fun t ht => Nat.le_trans (w3.2 t ht).1 hr⟩

/-! The helpers. -/
def hgtG (a : List (List Bool)) (v : Int) : Nat → Int := fun q => (a.drop q).foldl (fun v x => if v < (x.length : Int) then (x.length : Int) else v) v
theorem height_L0 (F : Nat) (a : List (List Bool)) (hl : a.length ≤ 2 ^ 60) : ∀ (m q : Nat) (v : Int), q ≤ a.length → a.length + 1 ≤ m + q → flow_Height_L0 F a m v q = some (hgtG a v q)
  | 0, q, v, h1, h2 => by omega
  | m + 1, q, v, h1, h2 => by
    rw [flow_Height_L0]
    by_cases h : q < a.length
    · rw [decide_eq_true (by omega), cond_true, idx_lt h, Option.bind_some, wrap_succ q (by omega), height_L0 F a hl m (q + 1) _ h (by omega)]
      unfold hgtG
      rw [List.drop_eq_getElem_cons h, List.foldl_cons]
    · rw [decide_eq_false (by omega), cond_false]
      unfold hgtG
      rw [List.drop_of_length_le (by omega)]; rfl
def hgt (a : List (List Bool)) : Int := hgtG a 0 0
theorem height_M {F : Nat} {a : List (List Bool)} (hl : a.length ≤ 2 ^ 40) (hF : 2 ^ 47 + 1 ≤ F) : flow_Height F a = some (hgt a) := by
  unfold flow_Height
  exact height_L0 F a (by omega) F 0 0 (by omega) (by omega)
theorem hgt_le {a : List (List Bool)} {S : Int} (hS : 0 ≤ S) (h : ∀ z ∈ a, (z.length : Int) ≤ S) : hgt a ≤ S := by
  unfold hgt hgtG
  rw [List.drop_zero]
  have : ∀ (l : List (List Bool)) (v : Int), v ≤ S → (∀ z ∈ l, (z.length : Int) ≤ S) → l.foldl (fun v x => if v < (x.length : Int) then (x.length : Int) else v) v ≤ S := by
    intro l
    induction l with
    | nil => exact fun v hv _ => hv
    | cons x l ih =>
      intro v hv hl
      rw [List.foldl_cons]
      refine ih _ ?_ fun z hz => hl z (by simp [hz])
      split
      · exact hl x (by simp)
      · exact hv
  exact this a 0 hS h

/-! Light answers. -/
theorem light_L2 (F : Nat) (c : api_Code) (a1 : Int) (hl : c.Tables.length ≤ 2 ^ 47) : ∀ (m q : Nat) (v : Int), q ≤ c.Tables.length → c.Tables.length + 1 ≤ m + q → ∃ b, R20_Light_L2 F c a1 m v q = some b
  | 0, q, v, h1, h2 => by omega
  | m + 1, q, v, h1, h2 => by
    rw [R20_Light_L2]
    by_cases h : q < c.Tables.length ∧ v ≤ a1
    · rw [decide_eq_true (by omega), decide_eq_true h.2, Bool.true_and, cond_true, idx_lt h.1, Option.bind_some, wrap_succ q (by omega)]
      exact light_L2 F c a1 hl m (q + 1) _ h.1 (by omega)
    · have : (decide ((q : Int) < (c.Tables.length : Int)) && decide (v ≤ a1)) = false := by
        rw [Bool.eq_false_iff]; intro hb; simp only [Bool.and_eq_true, decide_eq_true_eq] at hb; exact h ⟨by omega, hb.2⟩
      rw [this, cond_false]
      exact ⟨_, rfl⟩
theorem light_L1 (F : Nat) (c : api_Code) (a1 : Int) (K : Int → Option Bool) (hK : ∀ v, ∃ b, K v = some b) (hl : c.Texts.length ≤ 2 ^ 47) : ∀ (m q : Nat) (v : Int), q ≤ c.Texts.length → c.Texts.length + 1 ≤ m + q → ∃ b, R20_Light_L1 F c a1 K m v q = some b
  | 0, q, v, h1, h2 => by omega
  | m + 1, q, v, h1, h2 => by
    rw [R20_Light_L1]
    by_cases h : q < c.Texts.length ∧ v ≤ a1
    · rw [decide_eq_true (by omega), decide_eq_true h.2, Bool.true_and, cond_true, idx_lt h.1, Option.bind_some, wrap_succ q (by omega)]
      exact light_L1 F c a1 K hK hl m (q + 1) _ h.1 (by omega)
    · have : (decide ((q : Int) < (c.Texts.length : Int)) && decide (v ≤ a1)) = false := by
        rw [Bool.eq_false_iff]; intro hb; simp only [Bool.and_eq_true, decide_eq_true_eq] at hb; exact h ⟨by omega, hb.2⟩
      rw [this, cond_false]
      exact hK v
theorem light_L0 (F : Nat) (c : api_Code) (a1 : Int) (K : Int → Option Bool) (hK : ∀ v, ∃ b, K v = some b) (hl : c.Funs.length ≤ 2 ^ 47) : ∀ (m q : Nat) (v : Int), q ≤ c.Funs.length → c.Funs.length + 1 ≤ m + q → ∃ b, R20_Light_L0 F c a1 K m v q = some b
  | 0, q, v, h1, h2 => by omega
  | m + 1, q, v, h1, h2 => by
    rw [R20_Light_L0]
    by_cases h : q < c.Funs.length ∧ v ≤ a1
    · rw [decide_eq_true (by omega), decide_eq_true h.2, Bool.true_and, cond_true, idx_lt h.1, Option.bind_some, wrap_succ q (by omega)]
      exact light_L0 F c a1 K hK hl m (q + 1) _ h.1 (by omega)
    · have : (decide ((q : Int) < (c.Funs.length : Int)) && decide (v ≤ a1)) = false := by
        rw [Bool.eq_false_iff]; intro hb; simp only [Bool.and_eq_true, decide_eq_true_eq] at hb; exact h ⟨by omega, hb.2⟩
      rw [this, cond_false]
      exact hK v
theorem light_some {F : Nat} (hF : 2 ^ 47 + 1 ≤ F) {c : api_Code} (hs : Small c) (a1 : Int) : ∃ b, R20_Light F c a1 = some b := by
  have hf := hs.f
  have hx := hs.x
  have ht := hs.t
  simp only [R20_Light, joinM]
  exact light_L0 F c a1 _ (fun v => light_L1 F c a1 _ (fun w => light_L2 F c a1 ht F 0 w (by omega) (by omega)) hx F 0 v (by omega) (by omega)) hf F 0 0 (by omega) (by omega)
end Go.Proofs.Ytcdafogfmijcpaa.M
namespace Go.Proofs.Ytcdafogfmijcpaa.M
open Go.Proofs.YtcdafogfmijcpaaW.Ah Go.Proofs.Ytcdafogfmijcpaa
set_option linter.unusedVariables false
set_option linter.unusedSimpArgs false
set_option maxRecDepth 8000

def fa : api_Func := ⟨⟨#[]⟩, 1, 2, [⟨2, 0, 0, 0⟩, ⟨7, 0, 0, 0⟩]⟩
def ca : api_Code := ⟨[fa], [], []⟩
def fb : api_Func := ⟨⟨#[]⟩, 0, 2, [⟨7, 0, 0, 0⟩]⟩
def cb : api_Code := ⟨[fb], [], []⟩
theorem fit_ca : fitC ca = true := by decide
theorem fit_cb : fitC cb = true := by decide
theorem small_ca : smallC ca = true := by decide
theorem small_cb : smallC cb = true := by decide
theorem stp_a0 : stpC ca fa 0 [true] = some ([true, true], [1]) := by decide
theorem stp_a1 : stpC ca fa 1 [true, true] = some ([true], []) := by decide
theorem stp_b0 : stpC cb fb 0 [] = none := by decide
theorem le_trues : ∀ {x y : Row}, Le x y → (∀ b ∈ x, b = true) → y = x := by
  intro x y h hx
  refine (List.ext_getElem? fun k => ?_)
  by_cases hk : k < x.length
  · have h1 : x[k]? = some true := by rw [List.getElem?_eq_getElem hk, hx _ (List.getElem_mem hk)]
    rw [h1, h.2 k h1]
  · rw [List.getElem?_eq_none (by have := h.1; omega), List.getElem?_eq_none (by omega)]
theorem spec_a : specP ca fa = some [some [true], some [true, true]] := by
  refine leastP_some _ _ _ _ ⟨⟨rfl, ?_, ⟨[true], rfl, by decide, Le.rfl' _⟩, ?_⟩, ?_⟩
  · intro q x hx
    match q with
    | 0 => cases hx; decide
    | 1 => cases hx; decide
    | q + 2 => simp at hx
  · intro q x hx
    match q with
    | 0 => cases hx; exact ⟨_, _, stp_a0, fun to ht => by simp only [List.mem_singleton] at ht; subst ht; exact ⟨[true, true], rfl, by decide, Le.rfl' _⟩⟩
    | 1 => cases hx; exact ⟨_, _, stp_a1, fun to ht => by cases ht⟩
    | q + 2 => simp at hx
  · intro t ht
    refine ⟨by rw [ht.len]; rfl, ?_⟩
    obtain ⟨y, hy, _, hle⟩ := ht.ent
    have e0 : y = [true] := le_trues hle (by decide)
    subst e0
    obtain ⟨o, l, hs, hl⟩ := ht.cls 0 _ hy
    rw [stp_a0] at hs
    cases hs
    obtain ⟨y1, hy1, _, hle1⟩ := hl 1 (by simp)
    intro q x hx
    match q with
    | 0 => cases hx; exact ⟨_, hy, Le.rfl' _⟩
    | 1 => cases hx; exact ⟨_, hy1, hle1⟩
    | q + 2 => simp at hx
theorem spec_b : specP cb fb = none := by
  refine leastP_none _ _ _ _ ?_
  rintro ⟨t, ht⟩
  obtain ⟨y, hy, _, hle⟩ := ht.ent
  have e0 : y = [] := le_trues hle (by intro b hb; simp [fb] at hb)
  subst e0
  obtain ⟨o, l, hs, hl⟩ := ht.cls 0 _ hy
  rw [stp_b0] at hs
  cases hs
theorem flow_a : flowP ca = some ([[[true], [true, true]]], 0) := by
  unfold flowP
  rw [if_pos small_ca, if_pos fit_ca]
  have : specsP ca ca.Funs = some [[[true], [true, true]]] := by
    show specsP ca [fa] = _
    rw [specsP, spec_a, specsP]; rfl
  rw [this]
theorem flow_b : flowP cb = some ([], 24) := by
  unfold flowP
  rw [if_pos small_cb, if_pos fit_cb]
  have : specsP cb cb.Funs = none := by
    show specsP cb [fb] = _
    rw [specsP, spec_b]
  rw [this]
theorem awake_M {F : Nat} (hF : 2 ^ 47 + 1 ≤ F) : L21_awake F = some true := by
  have h1 : flow_Check F (api_Code.mk ([(api_Func.mk ⟨#[]⟩ 1 2 ([(api_Inst.mk 2 0 0 0), (api_Inst.mk 7 0 0 0)] : List api_Inst))] : List api_Func) [] []) = some ([[[true], [true, true]]], 0) := flow_a
  have h2 : flow_Check F (api_Code.mk ([(api_Func.mk ⟨#[]⟩ 0 2 ([(api_Inst.mk 7 0 0 0)] : List api_Inst))] : List api_Func) [] []) = some ([], 24) := flow_b
  have h3 : flow_Height F [[true], [true, true]] = some 2 := by
    rw [height_M (by decide) hF]; rfl
  simp only [L21_awake, joinM]
  rw [h1, h2, Option.bind_some, Option.bind_some]
  have i0 : idx ([[[true], [true, true]]] : List (List (List Bool))) 0 = some [[true], [true, true]] := rfl
  have i1 : idx ([[true], [true, true]] : List (List Bool)) 0 = some [true] := rfl
  have i2 : idx ([[true], [true, true]] : List (List Bool)) 1 = some [true, true] := rfl
  simp [i0, i1, i2, h3]
end Go.Proofs.Ytcdafogfmijcpaa.M
namespace Go.Proofs.Ytcdafogfmijcpaa.M
open Go.Proofs.YtcdafogfmijcpaaW.Ah Go.Proofs.Ytcdafogfmijcpaa
set_option linter.unusedVariables false
set_option linter.unusedSimpArgs false

theorem puts_of (i : api_Inst) (hi : fitI i = true) : (putsP i = 0 ∨ putsP i = 1) ∧ (i.Op = 1 ∨ i.Op = 2 ∨ i.Op = 3 ∨ i.Op = 6 → putsP i = 1) := by
  obtain ⟨k, hk, hop, hrow, _, _⟩ := rng_M i hi
  unfold putsP
  rw [hi, if_pos rfl, hrow, hop]
  have : ∀ k, k < 16 → ((rowsT.getD k row0).puts = 0 ∨ (rowsT.getD k row0).puts = 1) ∧ (k = 1 ∨ k = 2 ∨ k = 3 ∨ k = 6 → (rowsT.getD k row0).puts = 1) := by decide
  obtain ⟨h1, h2⟩ := this k hk
  exact ⟨h1, fun h => h2 (by omega)⟩
theorem a_of (i : api_Inst) (hi : fitI i = true) (h : i.Op = 2 ∨ i.Op = 14) : 0 ≤ i.A := by
  obtain ⟨k, hk, hop, hrow, hA, _⟩ := rng_M i hi
  have : ∀ k, k < 16 → k = 2 ∨ k = 14 → 0 ≤ (rowsT.getD k row0).l0 := by decide
  have := this k hk (by omega)
  omega
theorem b_of (i : api_Inst) (hi : fitI i = true) (h : i.Op = 11) : 0 ≤ i.B := by
  have hf := hi
  unfold fitI at hf
  rw [h] at hf
  simp only [Bool.and_eq_true, decide_eq_true_eq] at hf
  exact hf.2.2.2.1.1
theorem out_len (i : api_Inst) (x : Row) : (outP i x).length = (x.length - (takesP i).toNat) + (if 0 < putsP i then 1 else 0) := by
  have hb : (x.take (x.length - (takesP i).toNat) ++ (if 0 < putsP i then [putP i x] else [])).length = (x.length - (takesP i).toNat) + (if 0 < putsP i then 1 else 0) := by
    rw [List.length_append, List.length_take, Nat.min_eq_left (by omega)]
    split <;> rfl
  unfold outP
  simp only
  split
  · rw [List.length_set]; exact hb
  · exact hb
theorem out_get (i : api_Inst) (x : Row) {k : Nat} (hk : k < x.length - (takesP i).toNat) (h : ¬ (i.Op = 14 ∧ i.A = k)) (hA : i.Op = 14 → 0 ≤ i.A) : (outP i x)[k]? = x[k]? := by
  have hb : (x.take (x.length - (takesP i).toNat) ++ (if 0 < putsP i then [putP i x] else []))[k]? = x[k]? := by
    rw [List.getElem?_append_left (by rw [List.length_take]; omega), List.getElem?_take, if_pos hk]
  unfold outP
  simp only
  split
  · rename_i e
    have := hA e
    rw [List.getElem?_set_ne (fun e2 => h ⟨e, by omega⟩)]; exact hb
  · exact hb
theorem out_put (i : api_Inst) (x : Row) (hp : 0 < putsP i) (h : i.Op ≠ 14) : (outP i x)[x.length - (takesP i).toNat]? = some (putP i x) := by
  unfold outP
  simp only
  rw [if_neg h, if_pos hp, List.getElem?_append_right (by rw [List.length_take]; omega), List.length_take, Nat.min_eq_left (by omega), Nat.sub_self]; rfl

theorem leads_L0 (F : Nat) (x y : Row) (a2 : Int) (i : api_Inst) (K : Unit → Option Bool) {L : Nat} (hw : IntKind.i64.wrap ((x.length : Int) - a2) = L) (hx : L ≤ x.length) (hy : L ≤ y.length) (hL : L ≤ 2 ^ 40)
    (h : ∀ k, k < L → x[k]? = some true → y[k]? = some true ∨ (i.Op = 14 ∧ i.A = k)) : ∀ (m q : Nat), q ≤ L → L + 1 ≤ m + q → L21_leads_L0 F x y a2 i K m q = K ()
  | 0, q, h1, h2 => by omega
  | m + 1, q, h1, h2 => by
    rw [L21_leads_L0, hw]
    by_cases hq : q < L
    · have ih := leads_L0 F x y a2 i K hw hx hy hL h m (q + 1) hq (by omega)
      simp only [joinM]
      rw [decide_eq_true (by omega), cond_true, idx_lt (show q < x.length by omega), Option.bind_some, wrap_succ q (by omega), ih, idx_lt (show q < y.length by omega), Option.bind_some]
      have hh := h q hq
      rw [List.getElem?_eq_getElem (show q < x.length by omega), List.getElem?_eq_getElem (show q < y.length by omega)] at hh
      cases hxq : x[q] with
      | false => rfl
      | true =>
        rw [hxq] at hh
        rcases hh rfl with hv | ⟨e1, e2⟩
        · rw [Option.some.injEq] at hv
          rw [hv]; rfl
        · rw [e1, e2]; simp
    · rw [decide_eq_false (by omega), cond_false]
theorem leads_ok {F : Nat} (hF : 2 ^ 47 + 1 ≤ F) {c : api_Code} {x y : Row} {i : api_Inst} (hi : fitI i = true) (hx : x.length ≤ 8192) (htk : (takesP i).toNat ≤ x.length) (hth : thereP c i ((x.length - (takesP i).toNat : Nat) : Int) = true) (hle : Le (outP i x) y) :
    L21_leads F x y (takesP i) (putsP i) i = some true := by
  obtain ⟨hp, hp1⟩ := puts_of i hi
  obtain ⟨hA0⟩ : True ∧ True := ⟨trivial, trivial⟩
  have tk0 := (Flo.tk_nonneg i hi).1
  obtain ⟨tk, htkn⟩ := Int.eq_ofNat_of_zero_le tk0
  have htn : (takesP i).toNat = tk := by omega
  obtain ⟨L, hL⟩ : ∃ L, x.length - tk = L := ⟨_, rfl⟩
  have hlen := out_len i x
  have hget := fun k => out_get i x (k := k)
  have hput := out_put i x
  rw [htn] at htk hth hlen hget hput
  rw [hL] at hth hlen hget hput
  have hw : IntKind.i64.wrap ((x.length : Int) - takesP i) = L := by
    rw [htkn, show (x.length : Int) - ((tk : Nat) : Int) = ((L : Nat) : Int) by omega, wrap_nat L (by omega)]
  have hyl : y.length = L + (if 0 < putsP i then 1 else 0) := by rw [← hle.1]; exact hlen
  have hw2 : IntKind.i64.wrap ((L : Int) + putsP i) = ((y.length : Nat) : Int) := by
    rw [hyl]
    rcases hp with e | e
    · rw [e]; simp only [Int.add_zero, Int.lt_irrefl, if_false, Nat.add_zero]; exact wrap_nat L (by omega)
    · rw [e]; simp only [show (0 : Int) < 1 by decide, if_true]; exact wrap_succ L (by omega)
  have hloop : ∀ K, L21_leads_L0 F x y (takesP i) i K F 0 = K () := fun K => leads_L0 F x y (takesP i) i K hw (by omega) (by omega) (by omega) (fun k hk hxk => by
    by_cases e : i.Op = 14 ∧ i.A = k
    · exact .inr e
    · refine .inl (hle.2 k ?_)
      rw [hget k hk e (fun e14 => a_of i hi (.inr e14))]; exact hxk) F 0 (by omega) (by omega)
  have hyL : putsP i = 1 → ∃ v, idx y L = some v ∧ (i.Op ≠ 14 → putP i x = true → v = true) := fun e => by
    have hl : L < y.length := by rw [hyl, e]; simp
    refine ⟨y[L], idx_lt hl, fun e14 hpt => ?_⟩
    have h1 := hput (by omega) e14
    rw [hpt] at h1
    have h2 := hle.2 L h1
    rw [List.getElem?_eq_getElem hl] at h2
    simpa using h2
  simp only [L21_leads, joinM]
  rw [hw, hw2, decide_eq_false (by omega), bne_self_eq_false, Bool.or_false, cond_false, hloop]
  by_cases h2 : i.Op = 2
  · obtain ⟨v, hv, hvt⟩ := hyL (hp1 (.inr (.inl h2)))
    have hA := a_of i hi (.inl h2)
    have hAl : i.A < L := by
      unfold thereP at hth
      rw [if_neg (by omega), if_neg (by omega), if_neg (by omega), if_pos (.inl h2)] at hth
      simpa using hth
    obtain ⟨a, ha⟩ := Int.eq_ofNat_of_zero_le hA
    have hal : a < x.length := by omega
    rw [h2, ha, idx_lt hal]
    simp only [Option.bind_some, hv]
    have hpx : putP i x = x[a] := by
      unfold putP
      rw [if_neg (by omega), if_neg (by omega), if_pos h2, ha, Int.toNat_natCast, List.getD_eq_getElem?_getD, List.getElem?_eq_getElem hal]; rfl
    cases hxa : x[a] with
    | false => rfl
    | true => rw [hvt (by omega) (by rw [hpx, hxa])]; rfl
  · have hb2 : (i.Op != 2) = true := by simpa using h2
    by_cases h136 : i.Op = 3 ∨ i.Op = 1 ∨ i.Op = 6
    · obtain ⟨v, hv, hvt⟩ := hyL (hp1 (by omega))
      have hpx : putP i x = true := by
        unfold putP
        rw [if_neg (by omega), if_neg (by omega), if_neg h2, if_neg (by omega)]
      have hb : (((i.Op != 3) && (i.Op != 1)) && (i.Op != 6)) = false := by
        rcases h136 with e | e | e <;> rw [e] <;> rfl
      rw [hb, cond_false, hv, Option.bind_some, hvt (by omega) hpx, hb2]; rfl
    · have hb : (((i.Op != 3) && (i.Op != 1)) && (i.Op != 6)) = true := by
        simp only [Bool.and_eq_true, bne_iff_ne]; omega
      rw [hb, hb2]; rfl

def nexts (c : api_Code) (i : api_Inst) (q : Nat) : List Int := (if i.Op = 11 ∧ i.B < c.Tables.length then c.Tables.getD i.B.toNat [] else goesP i) ++ (if nextP i = true then [((q + 1 : Nat) : Int)] else [])
theorem steps_L2 (F : Nat) (x5 : List (List (List Bool)) × Int) (v12 : Int) (f : api_Func) (i : api_Inst) (x : Row) (tp : Int × Int) (v38 : List Int) (K : Unit → Option Bool) {rows : List (List Bool)} (hrow : idx x5.1 v12 = some rows) (hl : v38.length ≤ 2 ^ 40)
    (h : ∀ t ∈ v38, 0 ≤ t → t < f.Code.length ∧ ∃ y, idx rows t = some y ∧ L21_leads F x y tp.1 tp.2 i = some true) : ∀ (m q : Nat), q ≤ v38.length → v38.length + 1 ≤ m + q → L21_FlowSteps_L2 F x5 v12 f i x tp v38 K m q = K ()
  | 0, q, h1, h2 => by omega
  | m + 1, q, h1, h2 => by
    rw [L21_FlowSteps_L2]
    by_cases hq : q < v38.length
    · have ih := steps_L2 F x5 v12 f i x tp v38 K hrow hl h m (q + 1) hq (by omega)
      simp only [joinM]
      rw [decide_eq_true (by omega), cond_true, idx_lt hq, Option.bind_some, wrap_succ q (by omega), ih]
      by_cases h0 : 0 ≤ v38[q]
      · obtain ⟨g1, y, g2, g3⟩ := h _ (List.getElem_mem hq) h0
        rw [decide_eq_true h0, cond_true, decide_eq_false (by omega), cond_false, hrow, Option.bind_some, g2, Option.bind_some, g3, Option.bind_some, Bool.not_true, cond_false]
      · rw [decide_eq_false h0, cond_false, cond_false]
    · rw [decide_eq_false (by omega), cond_false]
theorem goes_len (i : api_Inst) : (goesP i).length ≤ 1 := by
  unfold goesP
  split
  · split <;> simp
  · simp
theorem steps_L1 (F : Nat) (hF : 2 ^ 47 + 1 ≤ F) (c : api_Code) (htab : ∀ t ∈ c.Tables, t.length ≤ 2 ^ 20) (x5 : List (List (List Bool)) × Int) (v12 : Int) (f : api_Func) (K : Unit → Option Bool) {rows : List (List Bool)} (hrow : idx x5.1 v12 = some rows) (hrl : rows.length = f.Code.length) (hcl : f.Code.length ≤ 2 ^ 20)
    (h : ∀ (q : Nat) (x : Row) (i : api_Inst), f.Code[q]? = some i → rows[q]? = some x → (0 < q ∧ x.length = 0) ∨ (fitI i = true ∧ ∀ t ∈ nexts c i q, 0 ≤ t → t < f.Code.length ∧ ∃ y, idx rows t = some y ∧ L21_leads F x y (takesP i) (putsP i) i = some true)) : ∀ (m q : Nat), q ≤ f.Code.length → f.Code.length + 1 ≤ m + q → L21_FlowSteps_L1 F c x5 v12 f K m q = K ()
  | 0, q, h1, h2 => by omega
  | m + 1, q, h1, h2 => by
    rw [L21_FlowSteps_L1]
    by_cases hq : q < f.Code.length
    · have ih := steps_L1 F hF c htab x5 v12 f K hrow hrl hcl h m (q + 1) hq (by omega)
      have hqr : q < rows.length := by omega
      have hh := h q rows[q] f.Code[q] (List.getElem?_eq_getElem hq) (List.getElem?_eq_getElem hqr)
      simp only [joinM]
      rw [decide_eq_true (by omega), cond_true, idx_lt hq, Option.bind_some, hrow, Option.bind_some, idx_lt hqr, Option.bind_some, wrap_succ q (by omega), ih]
      generalize f.Code[q] = i at hh
      generalize rows[q] = x at hh
      by_cases hsk : 0 < q ∧ x.length = 0
      · have : (decide (0 < (q : Int)) && ((x.length : Int) == 0)) = true := by
          rw [hsk.2, decide_eq_true (by omega)]; rfl
        rw [this, cond_true]
      · have hb : (decide (0 < (q : Int)) && ((x.length : Int) == 0)) = false := by
          rw [Bool.eq_false_iff]
          intro e
          simp only [Bool.and_eq_true, decide_eq_true_eq, beq_iff_eq] at e
          exact hsk ⟨by omega, by omega⟩
        obtain ⟨hi, ht⟩ := hh.resolve_left hsk
        have fin : ∀ v38, v38 = nexts c i q → v38.length ≤ 2 ^ 21 → L21_FlowSteps_L2 F x5 v12 f i x (takesP i, putsP i) v38 (fun _ => K ()) F 0 = K () := fun v38 e hl => by
          subst e
          exact steps_L2 F x5 v12 f i x (takesP i, putsP i) _ (fun _ => K ()) hrow (by omega) ht F 0 (by omega) (by omega)
        have key : ∀ v35 : List Int, v35.length ≤ 2 ^ 20 → v35 ++ (if nextP i = true then [((q + 1 : Nat) : Int)] else []) = nexts c i q → (bif nextP i then ((appM 8 ([] : List Int) v35).bind fun x41 => (appM 8 x41 ([((q + 1 : Nat) : Int)] : List Int)).bind fun x44 => L21_FlowSteps_L2 F x5 v12 f i x (takesP i, putsP i) x44 (fun _ => K ()) F 0) else L21_FlowSteps_L2 F x5 v12 f i x (takesP i, putsP i) v35 (fun _ => K ()) F 0) = K () := fun v35 hl he => by
          cases hn : nextP i with
          | false =>
            rw [hn] at he
            simp only [Bool.false_eq_true, if_false, List.append_nil] at he
            rw [cond_false]
            exact fin _ he (by omega)
          | true =>
            rw [hn] at he
            simp only [if_true] at he
            have e1 : appM 8 ([] : List Int) v35 = some v35 := by
              unfold appM
              rw [if_pos ⟨by simp only [List.length_nil]; unfold roomMax; omega, by simp only [List.length_nil]; unfold roomMax; omega⟩, List.nil_append]
            have e2 : appM 8 v35 ([((q + 1 : Nat) : Int)] : List Int) = some (v35 ++ [((q + 1 : Nat) : Int)]) := by
              unfold appM
              rw [if_pos ⟨by simp only [List.length_cons, List.length_nil]; unfold roomMax; omega, by simp only [List.length_cons, List.length_nil]; unfold roomMax; omega⟩]
            rw [cond_true, e1, Option.bind_some, e2, Option.bind_some]
            exact fin _ he (by rw [List.length_append]; simp only [List.length_cons, List.length_nil]; omega)
        rw [hb, cond_false, takes19_M F i hi, Option.bind_some, goes19_M F i hi, Option.bind_some]
        by_cases h11 : i.Op = 11 ∧ i.B < c.Tables.length
        · have hB0 := b_of i hi h11.1
          obtain ⟨b, hbn⟩ := Int.eq_ofNat_of_zero_le hB0
          have hbl : b < c.Tables.length := by omega
          have hc : ((i.Op == 11) && decide (i.B < (c.Tables.length : Int))) = true := by
            rw [decide_eq_true h11.2, h11.1]; rfl
          rw [hc, cond_true, hbn, idx_lt hbl, Option.bind_some]
          refine key _ (htab _ (List.getElem_mem hbl)) ?_
          unfold nexts
          rw [if_pos h11, hbn, Int.toNat_natCast, List.getD_eq_getElem?_getD, List.getElem?_eq_getElem hbl]; rfl
        · have hc : ((i.Op == 11) && decide (i.B < (c.Tables.length : Int))) = false := by
            rw [Bool.eq_false_iff]
            intro e
            simp only [Bool.and_eq_true, decide_eq_true_eq, beq_iff_eq] at e
            exact h11 e
          rw [hc, cond_false]
          refine key (goesP i) (by have := goes_len i; omega) ?_
          unfold nexts
          rw [if_neg h11]
    · rw [decide_eq_false (by omega), cond_false]

theorem fit_tab {c : api_Code} (h : fitC c = true) : ∀ t ∈ c.Tables, t.length ≤ 2 ^ 20 := fun t ht => by
  unfold fitC at h
  simp only [Bool.and_eq_true, List.all_eq_true] at h
  have := h.2.2 t ht
  unfold fitTab at this
  simp only [Bool.and_eq_true, decide_eq_true_eq] at this
  omega
theorem row_steps {F : Nat} (hF : 2 ^ 47 + 1 ≤ F) {c : api_Code} {f : api_Func} (ff : FitF f) {st : StF} (hl : Least f.Code.length f.Slots.toNat (List.replicate f.Params.toNat true) (stpC c f) st) (q : Nat) (x : Row) (i : api_Inst) (hi : f.Code[q]? = some i) (hx : (rowsOf st)[q]? = some x) :
    (0 < q ∧ x.length = 0) ∨ (fitI i = true ∧ ∀ t ∈ nexts c i q, 0 ≤ t → t < f.Code.length ∧ ∃ y, idx (rowsOf st) t = some y ∧ L21_leads F x y (takesP i) (putsP i) i = some true) := by
  by_cases hsk : 0 < q ∧ x.length = 0
  · exact .inl hsk
  have hfit := ff.fit q i hi
  refine .inr ⟨hfit, fun t ht ht0 => ?_⟩
  obtain ⟨r, hr, hxr⟩ := rows_get hx
  have hst : st[q]? = some (some x) := by
    cases r with
    | some y => subst hxr; exact hr
    | none =>
      subst hxr
      have hq0 : q = 0 := by
        by_cases e : q = 0
        · exact e
        · exact absurd ⟨by omega, rfl⟩ hsk
      subst hq0
      obtain ⟨y, hy, _⟩ := hl.1.ent
      rw [hy] at hr; cases hr
  have hwf := hl.1.wf q x hst
  have hs1 := ff.s1
  obtain ⟨o, l, hs, hin⟩ := hl.1.cls q x hst
  unfold stpC at hs
  rw [hi] at hs
  simp only at hs
  split at hs
  case isFalse => cases hs
  rename_i hg
  simp only [Option.some.injEq, Prod.mk.injEq] at hs
  obtain ⟨rfl, rfl⟩ := hs
  have htg : t ∈ tgP c i (q : Nat) := by
    unfold nexts at ht
    unfold tgP
    rw [List.mem_append] at ht ⊢
    rcases ht with ht | ht
    · left
      by_cases h11 : i.Op = 11
      · have hth := hg.2
        unfold thereP at hth
        rw [if_neg (by omega), if_neg (by omega), if_pos h11] at hth
        simp only [Bool.and_eq_true, decide_eq_true_eq] at hth
        rw [if_pos ⟨h11, hth.1⟩] at ht
        rw [if_pos h11, List.mem_filter]
        exact ⟨ht, by simpa using ht0⟩
      · rw [if_neg (fun e => h11 e.1)] at ht
        rw [if_neg h11]; exact ht
    · right
      split at ht
      · rename_i e
        rw [if_pos e]
        simpa using ht
      · cases ht
  obtain ⟨y, hy, hyS, hyl⟩ := hin t.toNat (List.mem_map.2 ⟨t, htg, rfl⟩)
  have htl : t.toNat < st.length := (List.getElem?_eq_some_iff.1 hy).1
  have hlen := hl.1.len
  refine ⟨by omega, y, ?_, leads_ok hF hfit (by omega) hg.1 hg.2 hyl⟩
  unfold idx rowsOf
  rw [if_pos ht0, List.getElem?_map, hy]; rfl

theorem steps_L0 (F : Nat) (hF : 2 ^ 47 + 1 ≤ F) (c : api_Code) (hft : fitC c = true) (out : List (List (List Bool))) (hsp : specsP c c.Funs = some out) : ∀ (m q : Nat), q ≤ c.Funs.length → c.Funs.length + 1 ≤ m + q → L21_FlowSteps_L0 F c (out, 0) m q = some true
  | 0, q, h1, h2 => by omega
  | m + 1, q, h1, h2 => by
    rw [L21_FlowSteps_L0]
    have hl80 := (fit_len hft).1
    by_cases hq : q < c.Funs.length
    · have ih := steps_L0 F hF c hft out hsp m (q + 1) hq (by omega)
      obtain ⟨g1, g2⟩ := specs_get c _ _ hsp
      obtain ⟨st, hs, ho⟩ := g2 q c.Funs[q] (List.getElem?_eq_getElem hq)
      have ff := fit_f (fit_each hft (List.getElem_mem hq))
      have hqo : q < out.length := by omega
      have hoq : idx out (q : Int) = some (rowsOf st) := by
        unfold idx
        rw [if_pos (by omega), Int.toNat_natCast, ho]
      generalize hfq : c.Funs[q] = f at hs ff
      have hl := spec_least hs
      have hlen := hl.1.len
      have hrl : (rowsOf st).length = f.Code.length := by unfold rowsOf; rw [List.length_map, hlen]
      have hc1 := ff.c1
      have hc2 := ff.c2
      obtain ⟨y0, hy0, _, hle0⟩ := hl.1.ent
      have hr0 : idx (rowsOf st) 0 = some y0 := by
        unfold idx rowsOf
        rw [if_pos (by omega), List.getElem?_map, show (0 : Int).toNat = 0 from rfl, hy0]; rfl
      have hp0 := ff.p0
      have hyl : (y0.length : Int) = f.Params := by rw [← hle0.1, List.length_replicate]; omega
      have hh : flow_Height F (rowsOf st) = some (hgt (rowsOf st)) := height_M (by omega) hF
      have hhl : hgt (rowsOf st) ≤ f.Slots := by
        refine hgt_le ff.s0 fun z hz => ?_
        obtain ⟨k, hk⟩ := List.mem_iff_getElem?.1 hz
        obtain ⟨r, e1, rfl⟩ := rows_get hk
        have hs0 := ff.s0
        cases r with
        | none => simpa using hs0
        | some x => have := hl.1.wf k x e1; simp only [Option.getD_some]; omega
      have key : L21_FlowSteps_L1 F c (out, 0) (q : Int) f (fun _ => L21_FlowSteps_L0 F c (out, 0) m ((q + 1 : Nat) : Int)) F ((0 : Nat) : Int) = L21_FlowSteps_L0 F c (out, 0) m ((q + 1 : Nat) : Int) :=
        steps_L1 F hF c (fit_tab hft) (out, 0) q f _ hoq hrl hc2 (row_steps hF ff hl) F 0 (by omega) (by omega)
      rw [show ((0 : Nat) : Int) = 0 from rfl] at key
      simp only [joinM]
      rw [decide_eq_true (by omega), cond_true, idx_lt hq, hfq, Option.bind_some, hoq, Option.bind_some, hrl, bne_self_eq_false, cond_false, Option.bind_some, hr0, Option.bind_some, hyl, bne_self_eq_false, cond_false, Option.bind_some, hh, Option.bind_some, decide_eq_false (by omega), cond_false, wrap_succ q (by omega), key, ih]
    · rw [decide_eq_false (by omega), cond_false, awake_M hF]; rfl
theorem holds_FlowSteps (c : api_Code) (w : W26 c) : ∃ F, L21_FlowSteps F c = some true := by
  obtain ⟨F, hF⟩ : ∃ F, 2 ^ 47 + 1 ≤ F := ⟨_, Nat.le_refl _⟩
  refine ⟨F, ?_⟩
  have hsm := small_w w
  have hs := small_of hsm
  obtain ⟨b, hb⟩ := light_some hF hs 2000
  obtain ⟨r, hr, hcase⟩ := flow_some hsm
  have e1 : flow_Check F c = some r := hr
  simp only [L21_FlowSteps, joinM]
  rw [hb, Option.bind_some]
  cases b with
  | false => rw [Bool.not_false, cond_true, awake_M hF]; rfl
  | true =>
    rw [Bool.not_true, cond_false, e1, Option.bind_some]
    rcases hcase with ⟨rfl, _⟩ | ⟨hft, ⟨rfl, _⟩ | ⟨out, rfl, hsp⟩⟩
    · simp [awake_M hF]
    · simp [awake_M hF]
    · obtain ⟨g1, _⟩ := specs_get c _ _ hsp
      have hl80 := (fit_len hft).1
      have key := steps_L0 F hF c hft out hsp F 0 (by omega) (by omega)
      rw [show ((0 : Nat) : Int) = 0 from rfl] at key
      rw [fit20_M c hF hs, hft]
      simp [g1, key]
end Go.Proofs.Ytcdafogfmijcpaa.M
