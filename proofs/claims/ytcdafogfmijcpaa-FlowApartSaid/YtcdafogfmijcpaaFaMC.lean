/-
  Codes that can be.
-/
import Derived.Test.YtcdafogfmijcpaaFaM
import Derived.Test.YtcdafogfmijcpaaFaMB
namespace Go.Proofs.Ytcdafogfmijcpaa.M
open Go.Proofs.YtcdafogfmijcpaaW.Ah Go.Proofs.Ytcdafogfmijcpaa
set_option linter.unusedVariables false
set_option linter.unusedSimpArgs false

def idxG {α : Type} (a0 : List α) (φ : α → Option Bool) : Nat → Int → Option Int
  | 0, _ => none
  | m + 1, v1 => bif (decide (v1 < (a0.length : Int))) then ((idx a0 v1).bind fun x4 => (φ x4).bind fun x5 => bif x5 then (some v1) else (idxG a0 φ m (IntKind.i64.wrap (v1 + 1)))) else (some (-1))
theorem idx_lt {α : Type} {xs : List α} {q : Nat} (h : q < xs.length) : idx xs (q : Int) = some xs[q] := by
  unfold idx
  rw [if_pos (by omega), Int.toNat_natCast, List.getElem?_eq_getElem h]
theorem idxG_ok {α : Type} (a0 : List α) (φ : α → Option Bool) (p : α → Bool) (hp : ∀ y ∈ a0, φ y = some (p y)) (hl : a0.length ≤ 2 ^ 60) : ∀ (m q : Nat), q ≤ a0.length → a0.length + 1 ≤ m + q → ∃ r, idxG a0 φ m q = some r ∧ decide (0 ≤ r) = (a0.drop q).any p
  | 0, q, h1, h2 => by omega
  | m + 1, q, h1, h2 => by
    rw [idxG]
    by_cases h : q < a0.length
    · have hi : (q : Int) < a0.length := by omega
      rw [decide_eq_true hi, cond_true, idx_lt h, Option.bind_some, hp _ (List.getElem_mem h), Option.bind_some, List.drop_eq_getElem_cons h, List.any_cons]
      cases hpx : p a0[q] with
      | true => exact ⟨q, rfl, by simp⟩
      | false =>
        rw [cond_false, wrap_succ q (by omega), Bool.false_or]
        exact idxG_ok a0 φ p hp hl m (q + 1) h (by omega)
    · have hi : ¬ (q : Int) < a0.length := by omega
      rw [decide_eq_false hi, cond_false]
      exact ⟨-1, rfl, by rw [List.drop_of_length_le (by omega)]; rfl⟩
theorem idxG_eq1 (F : Nat) (a0 : List api_Func) (φ : api_Func → Option Bool) : ∀ m v, slices_IndexFunc_api_Func_api_Func_L0 F a0 φ m v = idxG a0 φ m v
  | 0, _ => rfl
  | m + 1, v => by simp only [slices_IndexFunc_api_Func_api_Func_L0, idxG, idxG_eq1 F a0 φ m]
theorem idxG_eq2 (F : Nat) (a0 : List api_Inst) (φ : api_Inst → Option Bool) : ∀ m v, slices_IndexFunc_api_Inst_api_Inst_L0 F a0 φ m v = idxG a0 φ m v
  | 0, _ => rfl
  | m + 1, v => by simp only [slices_IndexFunc_api_Inst_api_Inst_L0, idxG, idxG_eq2 F a0 φ m]
theorem idxG_eq3 (F : Nat) (a0 : List (List Int)) (φ : List Int → Option Bool) : ∀ m v, slices_IndexFunc_byte_byte_L0 F a0 φ m v = idxG a0 φ m v
  | 0, _ => rfl
  | m + 1, v => by simp only [slices_IndexFunc_byte_byte_L0, idxG, idxG_eq3 F a0 φ m]
theorem idxG_eq4 (F : Nat) (a0 : List (List Int)) (φ : List Int → Option Bool) : ∀ m v, slices_IndexFunc_int_int_L0 F a0 φ m v = idxG a0 φ m v
  | 0, _ => rfl
  | m + 1, v => by simp only [slices_IndexFunc_int_int_L0, idxG, idxG_eq4 F a0 φ m]
theorem idxG_eq5 (F : Nat) (a0 : List Int) (φ : Int → Option Bool) : ∀ m v, slices_IndexFunc_int_int_57_L0 F a0 φ m v = idxG a0 φ m v
  | 0, _ => rfl
  | m + 1, v => by simp only [slices_IndexFunc_int_int_57_L0, idxG, idxG_eq5 F a0 φ m]

theorem anyNot {α : Type} (l : List α) (p : α → Bool) : (l.any fun y => !p y) = !l.all p := by
  induction l with
  | nil => rfl
  | cons x l ih => rw [List.any_cons, List.all_cons, ih, Bool.not_and]
theorem ltNat (k n : Nat) : decide ((k : Int) < (n : Int)) = !decide (n ≤ k) := by
  rw [Bool.eq_iff_iff]; simp
theorem leNat (k n : Nat) : decide ((k : Int) ≤ (n : Int)) = decide (k ≤ n) := by
  rw [Bool.eq_iff_iff]; simp
theorem fitFun_M {F : Nat} (f : api_Func) (hF : 2 ^ 47 + 1 ≤ F) (hl : f.Code.length ≤ 2 ^ 47) : code_Fit_1 F f = some (!fitFun f) := by
  have h1 : slices_ContainsFunc_api_Inst_api_Inst F f.Code (fun y0 => code_fitFunc_1 F y0) = some (!f.Code.all fitI) := by
    obtain ⟨r, h1, h2⟩ := idxG_ok f.Code (fun y0 => code_fitFunc_1 F y0) (fun y => !fitI y) (fun y _ => rfl) (by omega) F 0 (by omega) (by omega)
    unfold slices_ContainsFunc_api_Inst_api_Inst slices_IndexFunc_api_Inst_api_Inst
    rw [List.drop_zero, anyNot] at h2
    rw [idxG_eq2]
    rw [show ((0 : Nat) : Int) = 0 from rfl] at h1
    rw [h1, Option.bind_some, h2]
  unfold code_Fit_1 code_fitFunc code_between joinM fitFun
  rw [h1, show (64 : Int) = ((64 : Nat) : Int) from rfl, ltNat, show (1 : Int) = ((1 : Nat) : Int) from rfl, leNat, show (1048576 : Int) = ((1048576 : Nat) : Int) from rfl, leNat]
  cases decide (f.Name.size ≤ 64) <;> cases decide (0 ≤ f.Params) <;> cases decide (f.Params ≤ 6) <;> cases decide (0 ≤ f.Slots) <;> cases decide (f.Slots ≤ 8192) <;> cases decide (1 ≤ f.Code.length) <;> cases decide (f.Code.length ≤ 1048576) <;> cases f.Code.all fitI <;> rfl
theorem fitTab_M {F : Nat} (t : List Int) (hF : 2 ^ 47 + 1 ≤ F) (hl : t.length ≤ 2 ^ 47) : code_Fit_3 F t = some (!fitTab t) := by
  have h1 : slices_ContainsFunc_int_int_45 F t (fun y0 => code_fitTable_1 F y0) = some (!t.all (fun n => decide (-1 ≤ n) && decide (n ≤ 1048575))) := by
    obtain ⟨r, h1, h2⟩ := idxG_ok t (fun y0 => code_fitTable_1 F y0) (fun y => !(decide (-1 ≤ y) && decide (y ≤ 1048575))) (fun y _ => rfl) (by omega) F 0 (by omega) (by omega)
    unfold slices_ContainsFunc_int_int_45 slices_IndexFunc_int_int_57
    rw [List.drop_zero, anyNot t (fun n => decide (-1 ≤ n) && decide (n ≤ 1048575))] at h2
    rw [idxG_eq5]
    rw [show ((0 : Nat) : Int) = 0 from rfl] at h1
    rw [h1, Option.bind_some, h2]
  unfold code_Fit_3 code_fitTable code_between joinM fitTab
  rw [h1, show (1 : Int) = ((1 : Nat) : Int) from rfl, leNat, show (16 : Int) = ((16 : Nat) : Int) from rfl, leNat]
  cases decide (1 ≤ t.length) <;> cases decide (t.length ≤ 16) <;> cases (t.all fun n => decide (-1 ≤ n) && decide (n ≤ 1048575)) <;> rfl
structure Small (c : api_Code) : Prop where
  f : c.Funs.length ≤ 2 ^ 47
  fc : ∀ f ∈ c.Funs, f.Code.length ≤ 2 ^ 47
  x : c.Texts.length ≤ 2 ^ 47
  t : c.Tables.length ≤ 2 ^ 47
  tc : ∀ t ∈ c.Tables, t.length ≤ 2 ^ 47
theorem small_of {c : api_Code} (h : smallC c = true) : Small c := by
  unfold smallC at h
  simp only [Bool.and_eq_true, decide_eq_true_eq, List.all_eq_true] at h
  obtain ⟨⟨⟨⟨a, b⟩, d⟩, f⟩, g⟩ := h
  exact ⟨a, b, d, f, g⟩
theorem codeFit_M {F : Nat} (c : api_Code) (hF : 2 ^ 47 + 1 ≤ F) (hs : Small c) : code_Fit F c = some (fitC c) := by
  have h1 : slices_ContainsFunc_api_Func_api_Func F c.Funs (fun y0 => code_Fit_1 F y0) = some (!c.Funs.all fitFun) := by
    obtain ⟨r, h1, h2⟩ := idxG_ok c.Funs (fun y0 => code_Fit_1 F y0) (fun y => !fitFun y) (fun y hy => fitFun_M y hF (hs.fc y hy)) (by have := hs.f; omega) F 0 (by omega) (by have := hs.f; omega)
    unfold slices_ContainsFunc_api_Func_api_Func slices_IndexFunc_api_Func_api_Func
    rw [List.drop_zero, anyNot] at h2
    rw [idxG_eq1]
    rw [show ((0 : Nat) : Int) = 0 from rfl] at h1
    rw [h1, Option.bind_some, h2]
  have h2 : slices_ContainsFunc_byte_byte F c.Texts (fun y0 => code_Fit_2 F y0) = some (!c.Texts.all fun t => decide (t.length ≤ 64)) := by
    obtain ⟨r, h1, h2⟩ := idxG_ok c.Texts (fun y0 => code_Fit_2 F y0) (fun y => !decide (y.length ≤ 64)) (fun y hy => by unfold code_Fit_2; rw [show (64 : Int) = ((64 : Nat) : Int) from rfl, ltNat]) (by have := hs.x; omega) F 0 (by omega) (by have := hs.x; omega)
    unfold slices_ContainsFunc_byte_byte slices_IndexFunc_byte_byte
    rw [List.drop_zero, anyNot c.Texts (fun t => decide (t.length ≤ 64))] at h2
    rw [idxG_eq3]
    rw [show ((0 : Nat) : Int) = 0 from rfl] at h1
    rw [h1, Option.bind_some, h2]
  have h3 : slices_ContainsFunc_int_int F c.Tables (fun y0 => code_Fit_3 F y0) = some (!c.Tables.all fitTab) := by
    obtain ⟨r, h1, h2⟩ := idxG_ok c.Tables (fun y0 => code_Fit_3 F y0) (fun y => !fitTab y) (fun y hy => fitTab_M y hF (hs.tc y hy)) (by have := hs.t; omega) F 0 (by omega) (by have := hs.t; omega)
    unfold slices_ContainsFunc_int_int slices_IndexFunc_int_int
    rw [List.drop_zero, anyNot] at h2
    rw [idxG_eq4]
    rw [show ((0 : Nat) : Int) = 0 from rfl] at h1
    rw [h1, Option.bind_some, h2]
  unfold code_Fit joinM fitC
  rw [h1, h2, h3, show (80 : Int) = ((80 : Nat) : Int) from rfl, ltNat, show (4096 : Int) = ((4096 : Nat) : Int) from rfl, ltNat, show (65536 : Int) = ((65536 : Nat) : Int) from rfl, ltNat]
  cases decide (c.Funs.length ≤ 80) <;> cases decide (c.Texts.length ≤ 4096) <;> cases decide (c.Tables.length ≤ 65536) <;> cases c.Funs.all fitFun <;> cases (c.Texts.all fun t => decide (t.length ≤ 64)) <;> cases c.Tables.all fitTab <;> rfl
end Go.Proofs.Ytcdafogfmijcpaa.M
namespace Go.Proofs.Ytcdafogfmijcpaa.Flo
open Go.Proofs.YtcdafogfmijcpaaW.Ah
open M (api_Code api_Func api_Inst c3 c4 c9 c22 c26 c36 c41 c42 c44 c47 c51 StF RowT cRow rowsT row0 fitI rowI iC takesP putsP goesP nextP allP wantsP thereP putP)
set_option maxRecDepth 8000
set_option linter.unusedVariables false
set_option linter.unusedSimpArgs false
attribute [local simp] T.t2 T.t3 T.t4 T.t9 T.t22 T.t23 T.t24 T.t26 T.t29 T.t36 T.t39 T.t41 T.t42 T.t44 T.t47 T.t53 T.t55 T.t76 T.t92 T.t93 T.t95 T.t104 T.t106 Op.maxDepth List.range List.range.loop
attribute [-simp] appendAV

theorem cell4 (s : M.Row) (k : Nat) (h : k < s.length) : (encs c4 s)[k]? = some (B (s.getD k false)) := by
  have hc := cell_own (e := c4) (z := 1) s [] k 0 h (by omega)
  rw [List.append_nil, Nat.mul_one, Nat.add_zero] at hc
  rw [hc, List.getD_eq_getElem?_getD, List.getElem?_eq_getElem h]; rfl

theorem puts_ok (i : api_Inst) (s : M.Row) (h2 : i.Op = 2 → 0 ≤ i.A ∧ i.A < s.length) (h8 : i.Op = 8 → 0 < s.length) (hs : s.length ≤ 2 ^ 40) : RunF Try.prog T.T 51 [.agg (iC i), .ssl (encs c4 s) s.length false] (B (putP i s)) := by
  refine RunF.ev 9 Try.func51 rfl rfl rfl rfl rfl fun C hr hn => ?_
  by_cases e0 : i.Op = 0
  · simp [e0]
    iterate 12 (try (refine evS_sound (f := 4) ?_; simp [e0, partOf]))
    exact hr _ _ _ (by simp [putP, e0])
  · by_cases e5 : i.Op = 5
    · simp [e5]
      iterate 12 (try (refine evS_sound (f := 4) ?_; simp [e5, partOf]))
      exact hr _ _ _ (by simp [putP, e5])
    · by_cases e2 : i.Op = 2
      · obtain ⟨g1, g2⟩ := h2 e2
        obtain ⟨a, ha⟩ := Int.eq_ofNat_of_zero_le g1
        have hal : a < s.length := by omega
        have hali : (a : Int) < s.length := by omega
        have hc := cell4 s a hal
        simp [e2, ha]
        iterate 12 (try (refine evS_sound (f := 4) ?_; simp [e2, ha, partOf, hal, hali, hc]))
        have hcg : ∀ h : a < (encs c4 s).length, (encs c4 s)[a] = B (s.getD a false) := fun h => by rw [List.getElem?_eq_getElem h] at hc; simpa using hc
        exact hr _ _ _ (by simp [putP, e2, ha, hcg])
      · by_cases e8 : i.Op = 8
        · have g1 := h8 e8
          obtain ⟨a, ha⟩ : ∃ a, s.length = a + 1 := ⟨s.length - 1, by omega⟩
          have hw : IntKind.i64.wrap (a : Int) = a := wrap_nat a (by omega)
          have hc := cell4 s a (by omega)
          have hali : (a : Int) < (a : Int) + 1 := by omega
          simp [e8, ha]
          iterate 16 (try (refine evS_sound (f := 4) ?_; simp [e8, ha, partOf, hw, hali, hc]))
          have hcg : ∀ h : a < (encs c4 s).length, (encs c4 s)[a] = B (s.getD a false) := fun h => by rw [List.getElem?_eq_getElem h] at hc; simpa using hc
          exact hr _ _ _ (by simp [putP, e8, ha, hcg])
        · simp [e0, e2, e5, e8]
          iterate 20 (try (refine evS_sound (f := 4) ?_; simp [e0, e2, e5, e8, partOf]))
          exact hr _ _ _ (by simp [putP, e0, e2, e5, e8])

theorem app_one {H : Mem} {n : Nat} (x : Int) : appendAV T.T (upd H n (some (.cells [I x] 3))) (n + 1) 47 (.sc (.slice none 0 0)) (.osl n 0 1 (some 1)) = some (.osl (n + 1) 0 1 none, upd (upd H n (some (.cells [I x] 3))) (n + 1) (some (.cells [I x] 3)), n + 2) := by
  simp [appendAV, elemsOf, roomMax]

theorem goes_ok {H : Mem} {n : Nat} (i : api_Inst) (hi : fitI i = true) :
    RunQ Try.prog T.T 60 [.agg (iC i)] H n (fun r H' n' => ∃ o, r = .tup [slv o (goesP i).length, B (nextP i)] ∧ YtcdafogfmijcpaaW.Ah.Own H' 3 c3 o (goesP i) ∧ n ≤ n' ∧ (∀ j, o = some j → n ≤ j ∧ j < n') ∧ ∀ j, j < n → H' j = H j) := by
  have e1 : goesP i = (if 0 ≤ (rowI i).to then [allP i (rowI i).to] else []) := by unfold goesP; rw [if_pos hi]
  have e2 : nextP i = (rowI i).next := by unfold nextP; rw [if_pos hi]
  have hrow := (fit_rng i hi).2.2.2.2.2.2.2.2
  have hto : (rowI i).to < 3 := by
    obtain ⟨h0, h16, _⟩ := fit_rng i hi
    rw [hrow]
    have key : ∀ k : Nat, k < 16 → (rowsT.getD k row0).to < 3 := by decide
    exact key _ (by omega)
  refine RunQ.ev 9 Try.func60 rfl rfl rfl rfl rfl fun C hr hn => ?_
  rw [e1, e2] at hr
  obtain ⟨r, hrr⟩ : ∃ r, rowI i = r := ⟨_, rfl⟩
  have hof := M.of_ok i
  rw [hrr, hi] at hof
  rw [hrr] at hr hto
  simp [partOf]
  refine Stk.callF 4 hof rfl rfl rfl (by simp) rfl rfl ?_
  iterate 3 (try (refine evS_sound (f := 4) ?_; simp [partOf, splice]))
  by_cases hge : 0 ≤ r.to
  · rw [if_pos hge] at hr
    iterate 3 (try (refine evS_sound (f := 4) ?_; simp [partOf, splice, hge]))
    refine Stk.regionD 99 [.rd [], .rd [n], .rd [], .rd [], .rd [n + 1], .rd [], .mem [] (n + 2), .mem [] (n + 2), .rd []] none (by kernel_rfl) (drawOk2_ren [n, n + 1] (by simp) (n + 2) [.rd [], .rd [0], .rd [], .rd [], .rd [1], .rd [], .mem [] 0, .mem [] 0, .rd []] rfl (by rfl)) rfl (by simp [below]) rfl ?_
    simp [partOf]
    refine Stk.callFD 99 (M.all_ok i) rfl rfl rfl rfl rfl (by simp) rfl rfl ?_
    obtain ⟨k, hk⟩ := Int.eq_ofNat_of_zero_le hge
    have hk3 : k < 3 := by omega
    have hall : allP i r.to = ([i.A, i.B, i.C].getD k 0) := by
      rw [hk]
      match k, hk3 with
      | 0, _ => rfl
      | 1, _ => rfl
      | 2, _ => rfl
    have hpo : partOf T.T 3 [I i.A, I i.B, I i.C] k = some (I (allP i r.to)) := by
      rw [hall]
      match k, hk3 with
      | 0, _ => rfl
      | 1, _ => rfl
      | 2, _ => rfl
    rw [hk] at hpo hr
    have hki : (k : Int) < 3 := by omega
    have happ := fun (H : Mem) (n : Nat) => app_one (H := H) (n := n) (allP i (k : Int))
    simp [hk, hki, hk3, hpo, happ]
    refine ⟨fun j h1 h2 => by omega, fun j h1 h2 => by omega, ?_⟩
    refine Stk.regionD 99 [.rd [], .rd [], .rd [n + 1], .rd [], .rd []] none (by kernel_rfl) (drawOk2_ren [n + 1] (by simp) 0 [.rd [], .rd [], .rd [0], .rd [], .rd []] rfl (by rfl)) rfl (by simp [below]) rfl ?_
    simp [partOf]
    refine hr _ _ _ (.tup [.osl (n + 3) 0 1 none, B r.next]) (by simp) ⟨some (n + 3), by simp, ⟨[], by simp [encs]⟩, by omega, (fun j hj => by cases hj; omega), fun j hj => ?_⟩
    rw [upd_ne _ _ (by omega), upd_ne _ _ (by omega), upd_ne _ _ (by omega), upd_ne _ _ (by omega), upd_ne _ _ (by omega)]
  · rw [if_neg hge] at hr
    iterate 3 (try (refine evS_sound (f := 4) ?_; simp [partOf, splice, hge]))
    refine Stk.regionD 99 [.rd [], .rd [], .rd [n + 1], .rd [], .rd []] none (by kernel_rfl) (drawOk2_ren [n + 1] (by simp) 0 [.rd [], .rd [], .rd [0], .rd [], .rd []] rfl (by rfl)) rfl (by simp [below]) rfl ?_
    simp [partOf]
    refine hr _ _ _ (.tup [.sc (.slice none 0 0), B r.next]) (by simp) ⟨none, rfl, rfl, by omega, (fun j hj => by cases hj), fun j hj => ?_⟩
    rw [upd_ne _ _ (by omega), upd_ne _ _ (by omega), upd_ne _ _ (by omega)]
end Go.Proofs.Ytcdafogfmijcpaa.Flo
namespace Go.Proofs.Ytcdafogfmijcpaa.Flo
open Go.Proofs.YtcdafogfmijcpaaW.Ah
open M (api_Code api_Func api_Inst c3 c4 c9 c22 c26 c36 c41 c42 c44 c47 c51 StF RowT cRow rowsT row0 fitI rowI iC takesP putsP goesP nextP allP wantsP thereP putP)
set_option maxRecDepth 8000
set_option linter.unusedVariables false
set_option linter.unusedSimpArgs false
attribute [local simp] T.t2 T.t3 T.t4 T.t9 T.t22 T.t23 T.t24 T.t26 T.t29 T.t36 T.t39 T.t41 T.t42 T.t44 T.t47 T.t53 T.t55 T.t76 T.t92 T.t93 T.t95 T.t104 T.t106 Op.maxDepth List.range List.range.loop
attribute [-simp] appendAV

theorem clone62 {H : Mem} {n : Nat} (xs : List Int) (h0 : 0 < xs.length) (hl : xs.length ≤ 2 ^ 20) :
    RunQ Try.prog T.T 62 [.ssl (encs c3 xs) xs.length false] H n (fun r H' n' => ∃ j ys, r = .osl j 0 xs.length none ∧ H' j = some (.cells (encs c3 xs ++ ys) 3) ∧ n ≤ j ∧ j < n' ∧ ∀ q, q < n → H' q = H q) := by
  have hok : (encs c3 xs).all cellOk = true := all_encs M.ok3 xs
  have key : appendAV T.T (upd H n (some (.cells [] 3))) (n + 1) 47 (.osl n 0 0 (some 0)) (.ssl (encs c3 xs) xs.length false) = some (.osl (n + 1) 0 xs.length none, upd (upd H n (some (.cells [] 3))) (n + 1) (some (.cells (encs c3 xs) 3)), n + 2) := by
    have hel : elemsOf (upd H n (some (.cells [] 3))) 1 (.osl n 0 0 (some 0)) = some (0, []) := by simp [elemsOf]
    have hel2 : elemsOf (upd H n (some (.cells [] 3))) 1 (.ssl (encs c3 xs) xs.length false) = some (xs.length, encs c3 xs) := elems_ssl (c := c3) (z := 1)
    unfold appendAV
    simp only [T.t47, T.t3, hel, hel2]
    rw [if_pos ⟨by simp [roomMax]; omega, by simp [roomMax]; omega, by decide, by decide, by decide, hok⟩]
    simp only [upd_same, if_true, Nat.zero_add, List.nil_append]
    rw [if_neg (fun h => by have := h.1; simp [fitsC] at this; rw [this] at h0; simp at h0), if_neg (by omega)]
  have hne : ¬ xs = [] := fun e => by rw [e] at h0; simp at h0
  have hne2 : ¬ xs.length = 0 := by omega
  refine RunQ.ev 99 Try.func62 rfl rfl rfl rfl rfl fun C hr hn => ?_
  simp [key, hne, hne2]
  exact hr _ _ _ (.osl (n + 1) 0 xs.length none) (by simp) ⟨n + 1, [], rfl, by simp, by omega, by omega, fun q hq => by rw [upd_ne _ _ (by omega), upd_ne _ _ (by omega)]⟩

theorem neg63 (x : Int) : RunF Try.prog T.T 63 [I x] (B (decide (x < 0))) := by
  refine RunF.ev 99 Try.func63 rfl rfl rfl rfl rfl fun C hr hn => ?_
  simp
  exact hr _ _ _ (by simp)

def negAt : List Int → Nat → Int
  | [], _ => -1
  | x :: l, k => if x < 0 then (k : Int) else negAt l (k + 1)
abbrev okP (x : Int) : Bool := decide (0 ≤ x)
theorem negAt_at : ∀ (l : List Int) (k q : Nat), (∀ j x, j < q → l[j]? = some x → 0 ≤ x) → q ≤ l.length → negAt l k = negAt (l.drop q) (k + q)
  | l, k, 0, _, _ => by simp
  | [], k, q + 1, _, h => by simp at h
  | y :: l, k, q + 1, h, hq => by
    have h0 := h 0 y (by omega) rfl
    rw [negAt, if_neg (by omega), List.drop_succ_cons, negAt_at l (k + 1) q (fun j x hj hx => h (j + 1) x (by omega) (by simpa using hx)) (by simpa using hq)]
    rw [show k + 1 + q = k + (q + 1) by omega]
theorem negAt_spec : ∀ (l : List Int) (k : Nat), (negAt l k = -1 ∧ l.filter okP = l) ∨ ∃ q, negAt l k = ((k + q : Nat) : Int) ∧ q < l.length ∧ (l.take (q + 1)).filter okP = l.take q
  | [], k => .inl ⟨rfl, rfl⟩
  | x :: l, k => by
    rw [negAt]
    by_cases h : x < 0
    · rw [if_pos h]
      exact .inr ⟨0, rfl, by simp, by simp [okP, List.filter_cons]; omega⟩
    · rw [if_neg h]
      have hx : okP x = true := by simp [okP]; omega
      rcases negAt_spec l (k + 1) with ⟨h1, h2⟩ | ⟨q, h1, h2, h3⟩
      · exact .inl ⟨h1, by rw [List.filter_cons, hx, if_pos rfl, h2]⟩
      · exact .inr ⟨q + 1, by rw [h1]; congr 1; omega, by simpa using h2, by rw [List.take_succ_cons, List.filter_cons, hx, if_pos rfl, h3, List.take_succ_cons]⟩

theorem index57 (l : List Int) (hl : l.length ≤ 2 ^ 40) : RunF Try.prog T.T 57 [.ssl (encs c3 l) l.length false, .fn (.func 63) [] []] (I (negAt l 0)) := by
  refine RunF.ev 99 Try.func57 rfl rfl rfl rfl rfl fun C hr hn => ?_
  simp
  refine Stk.loop 4 (fun μ t H n => ∃ q : Nat, q ≤ l.length ∧ μ = l.length - q ∧ t 0 = .ssl (encs c3 l) l.length false ∧ t 1 = .fn (.func 63) [] [] ∧ t 7 = I l.length ∧ t 8 = I q ∧ ∀ j x, j < q → l[j]? = some x → 0 ≤ x) l.length
    ⟨0, by omega, rfl, by simp, by simp, by simp, by simp, fun j x hj => by omega⟩ ?_
  rintro J hJ μ t H n ⟨q, hq, rfl, t0, t1, t7, t8, hall⟩
  have hf := negAt_at l 0 q hall hq
  by_cases hlt : q < l.length
  · have hlti : (q : Int) < l.length := by omega
    have wq := wrap_succ q (by omega)
    have hix : partOf T.T 3 (List.drop q (encs c3 l)) 0 = some (I l[q]) := by
      have hc := cell_own (e := c3) (z := 1) l [] q 0 hlt (by omega)
      rw [List.append_nil] at hc
      simp only [partOf, T.t3]
      simpa [aggK] using hc
    have hget : l[q]? = some l[q] := List.getElem?_eq_getElem hlt
    simp [t7, t8, hlti]
    iterate 8 (try (refine evS_sound (f := 4) ?_; simp [t0, t1, t7, t8, hlt, hlti, hix]))
    refine Stk.callF 4 (neg63 l[q]) rfl rfl rfl (by simp) rfl rfl ?_
    by_cases e : l[q] < 0
    · have hres : negAt l 0 = q := by
        rw [hf, List.drop_eq_getElem_cons hlt, negAt, if_pos e]; simp
      simp [e]
      iterate 12 (try (refine evS_sound (f := 4) ?_; simp [t0, t1, t7, t8, hlt, hlti, hix]))
      exact hr _ _ _ (by simp [hres])
    · have hge : 0 ≤ l[q] := by omega
      simp [e]
      iterate 12 (try (refine evS_sound (f := 4) ?_; simp [t0, t1, t7, t8, hlt, hlti, hix, hge, wq]))
      exact ⟨_, by omega, hJ _ _ _ _ ⟨q + 1, hlt, rfl, by simp [t0], by simp [t1], by simp [t7], by simp, fun j x hj hx => by
        by_cases ej : j = q
        · subst ej; rw [hget] at hx; cases hx; exact hge
        · exact hall j x (by omega) hx⟩⟩
  · have hqe : q = l.length := by omega
    subst hqe
    have hres : negAt l 0 = -1 := by rw [hf, List.drop_length, negAt]
    simp [t7, t8]
    iterate 6 (try (refine evS_sound (f := 4) ?_; simp))
    exact hr _ _ _ (by simp [hres])

theorem delete61 {H : Mem} {n j : Nat} (xs : List Int) (zs : List AV) (hj : H j = some (.cells (encs c3 xs ++ zs) 3)) (hjn : j < n) (hl : xs.length ≤ 2 ^ 20) :
    RunQ Try.prog T.T 61 [.osl j 0 xs.length none, .fn (.func 63) [] []] H n (fun r H' n' => ∃ ys, r = .osl j 0 (xs.filter okP).length none ∧ H' j = some (.cells (encs c3 (xs.filter okP) ++ ys) 3) ∧ n ≤ n' ∧ ∀ q, q ≠ j → H' q = H q) := by
  refine RunQ.ev 99 Try.func61 rfl rfl rfl rfl rfl fun C hr hn => ?_
  simp
  refine Stk.callB 4 [j] (index57 xs (by omega)) rfl rfl rfl (by simp) (.cons (view_own (e := c3) (z := 1) (o := some j) M.fr3 ⟨zs, hj⟩ (fun i hi => by cases hi; simp)) (.free rfl)) rfl ?_
  rcases negAt_spec xs 0 with ⟨h1, h2⟩ | ⟨q0, h1, h2, h3⟩
  · rw [h1]
    simp
    iterate 8 (try (refine evS_sound (f := 4) ?_; simp))
    exact hr _ _ _ (.osl j 0 xs.length none) (by simp) ⟨zs, by rw [h2], by rw [h2]; exact hj, Nat.le_refl _, fun _ _ => rfl⟩
  · rw [h1, Nat.zero_add]
    have wq := wrap_succ q0 (by omega)
    have hnm : ¬ (q0 : Int) = -1 := by omega
    simp [hnm]
    iterate 8 (try (refine evS_sound (f := 4) ?_; simp [hnm, wq]))
    have hstart : (xs.take q0).length = q0 := by rw [List.length_take]; omega
    refine Stk.loop 4 (fun μ t H' n' => ∃ (q i : Nat) (ys : List Int), i < q ∧ q ≤ xs.length ∧ μ = xs.length - q ∧ t 0 = .osl j 0 xs.length none ∧ t 1 = .fn (.func 63) [] [] ∧ t 5 = I i ∧ t 6 = I q ∧
      H' j = some (.cells (encs c3 ys ++ zs) 3) ∧ ys.length = xs.length ∧ ys.take i = (xs.take q).filter okP ∧ ys.drop q = xs.drop q ∧ (∀ q, q ≠ j → H' q = H q) ∧ n' = n) (xs.length - (q0 + 1))
      ⟨q0 + 1, q0, xs, by omega, by omega, rfl, by simp, by simp, by simp, by simp, hj, rfl, h3.symm, rfl, fun _ _ => rfl, rfl⟩ ?_
    rintro J hJ μ t H' n' ⟨q, i, ys, hiq, hq, rfl, t0, t1, t5, t6, hj', hyl, htake, hdrop, hk, rfl⟩
    by_cases hlt : q < xs.length
    · have hlti : (q : Int) < xs.length := by omega
      have wq := wrap_succ q (by omega)
      have wi := wrap_succ i (by omega)
      have hyq : q < ys.length := by omega
      have hget : ys[q]? = xs[q]? := by
        have := congrArg (fun l => l[0]?) hdrop
        simpa using this
      obtain ⟨x, hx⟩ : ∃ x, xs[q]? = some x := ⟨_, List.getElem?_eq_getElem hlt⟩
      have hix : partOf T.T 3 (encs c3 ys ++ zs) q = some (I x) := by
        have hc := cell_own (e := c3) (z := 1) ys zs q 0 hyq (by omega)
        have e : ys[q] = x := by rw [hx, List.getElem?_eq_getElem hyq] at hget; simpa using hget
        rw [e] at hc
        simp only [partOf, T.t3]
        simpa [aggK] using hc
      have htk : xs.take (q + 1) = xs.take q ++ [x] := by rw [List.take_add_one, hx]; rfl
      simp [t6, t0]
      iterate 8 (try (refine evS_sound (f := 4) ?_; simp [t0, t1, t5, t6, hlti, hj', hix]))
      refine Stk.callF 4 (neg63 x) rfl rfl rfl (by simp) rfl rfl ?_
      have hdrop1 : ∀ (ws : List Int), ws.drop q = xs.drop q → ws.drop (q + 1) = xs.drop (q + 1) := fun ws h => by
        rw [← List.drop_drop, ← List.drop_drop, h]
      by_cases e : x < 0
      · have hxp : okP x = false := by simp [okP]; omega
        simp [e]
        iterate 12 (try (refine evS_sound (f := 4) ?_; simp [t0, t1, t5, t6, e, wq]))
        exact ⟨_, by omega, hJ _ _ _ _ ⟨q + 1, i, ys, by omega, hlt, rfl, by simp [t0], by simp [t1], by simp [t5], by simp, hj', hyl, by rw [htk, List.filter_append, List.filter_cons, hxp, htake]; simp, hdrop1 ys hdrop, hk, rfl⟩⟩
      · have hxp : okP x = true := by simp [okP]; omega
        have hge : 0 ≤ x := by omega
        have hil : i < ys.length := by omega
        have hili : (i : Int) < xs.length := by omega
        have hsp : splice (encs c3 ys ++ zs) i [I x] = encs c3 (ys.set i x) ++ zs := by
          have := splice_own (e := c3) (z := 1) ys zs i hil x
          rw [Nat.mul_one] at this; exact this
        have hll : i + 1 ≤ (encs c3 ys ++ zs).length := by rw [List.length_append, length_encs (e := c3)]; omega
        simp [e, hge]
        iterate 12 (try (refine evS_sound (f := 4) ?_; simp [t0, t1, t5, t6, hge, wq, wi, hili, hj', hsp, hll, -List.length_append]))
        refine ⟨_, by omega, hJ _ _ _ _ ⟨q + 1, i + 1, ys.set i x, by omega, hlt, rfl, by simp [t0], by simp [t1], by simp, by simp, ?_, by rw [List.length_set]; exact hyl, ?_, ?_, fun p hp => by simp [hp, hk p hp], rfl⟩⟩
        · have h := hsp; unfold splice at h; simpa using h
        · rw [htk, List.filter_append, List.filter_cons, hxp, ← htake, List.take_set, List.take_add_one, List.set_append_right _ _ (by rw [List.length_take]; omega)]
          rw [List.getElem?_eq_getElem hil]
          simp [Nat.min_eq_left (Nat.le_of_lt hil)]
        · rw [List.drop_set_of_lt (by omega)]; exact hdrop1 ys hdrop
    · have hqe : q = xs.length := by omega
      subst hqe
      rw [List.take_length] at htake
      have hili : i < xs.length := hiq
      simp [t6, t0]
      have hile : i ≤ xs.length := by omega
      have hsum : i + (xs.length - i) = xs.length := by omega
      have hlen : (encs c3 ys).length = xs.length := by rw [length_encs (e := c3)]; omega
      have hle2 : xs.length ≤ xs.length + zs.length := by omega
      have hmax : i ≤ max xs.length (min i (xs.length + zs.length) + (xs.length - i + zs.length)) := Nat.le_trans hile (Nat.le_max_left _ _)
      have hflen : (xs.filter okP).length = i := by rw [← htake, List.length_take]; omega
      have htk : (encs c3 ys ++ zs).take i = encs c3 (xs.filter okP) := by
        rw [List.take_append_of_le_length (by rw [length_encs (e := c3)]; omega), ← htake]
        have e : encs c3 ys = encs c3 (ys.take i) ++ encs c3 (ys.drop i) := by rw [← encs_append, List.take_append_drop]
        rw [e, List.take_left' (by rw [length_encs (e := c3), List.length_take]; omega)]
      iterate 10 (try (refine evS_sound (f := 4) ?_; simp [t0, t1, t5, t6, hj', hili, hile, hsum, hlen, hle2, hmax]))
      refine hr _ _ _ (.osl j 0 i none) (by simp) ⟨_, by rw [hflen], by rw [upd_same, htk], Nat.le_refl _, fun p hp => ?_⟩
      rw [upd_ne _ _ hp, hk p hp]
end Go.Proofs.Ytcdafogfmijcpaa.Flo
namespace Go.Proofs.Ytcdafogfmijcpaa.Flo
open Go.Proofs.YtcdafogfmijcpaaW.Ah
open M (api_Code api_Func api_Inst c3 c4 c9 c22 c26 c36 c41 c42 c44 c47 c51 StF RowT cRow rowsT row0 fitI rowI iC takesP putsP goesP nextP allP wantsP thereP putP tgP)
set_option maxRecDepth 8000
set_option linter.unusedVariables false
set_option linter.unusedSimpArgs false
attribute [local simp] T.t2 T.t3 T.t4 T.t9 T.t22 T.t23 T.t24 T.t26 T.t29 T.t36 T.t39 T.t41 T.t42 T.t44 T.t47 T.t53 T.t55 T.t76 T.t92 T.t93 T.t95 T.t104 T.t106 Op.maxDepth List.range List.range.loop
attribute [-simp] appendAV

theorem moreI {H : Mem} {n : Nat} {o : Option Nat} {xs : List Int} (ho : YtcdafogfmijcpaaW.Ah.Own H 3 c3 o xs) (hn : ∀ i, o = some i → i < n) (hl : xs.length ≤ 2 ^ 40) (x : Int) :
    ∃ i H' n', appendAV T.T (upd H n (some (.cells [I x] 3))) (n + 1) 47 (slv o xs.length) (.osl n 0 1 (some 1)) = some (.osl i 0 (xs.length + 1) none, H', n') ∧ YtcdafogfmijcpaaW.Ah.Own H' 3 c3 (some i) (xs ++ [x]) ∧ n ≤ n' ∧ (o = some i ∨ n ≤ i) ∧ i < n' ∧ (∀ j, j < n → o ≠ some j → H' j = H j) := by
  obtain ⟨o', H', n', e1, o1, le1, f1, k1⟩ := append_own (e := c3) (z := 1) T.t47 rfl T.t3 rfl (by decide) rfl (by decide) (H := upd H n (some (.cells [I x] 3))) (n := n + 1) (o := o) (xs := xs)
    (ho.mono fun i hi => upd_ne _ _ (by have := hn i hi; omega)) (fun i hi => by have := hn i hi; omega) (y := .osl n 0 1 (some 1)) [x] (by simp [encs, elemsOf]) rfl (by simp [roomMax]; omega) (by simp [roomMax]; omega)
  cases o' with
  | none => simp [YtcdafogfmijcpaaW.Ah.Own] at o1
  | some i =>
    have := f1 i rfl
    refine ⟨i, H', n', by simpa using e1, o1, by omega, ?_, this.2, fun j hj hne => by rw [k1 j (by omega) hne, upd_ne _ _ (by omega)]⟩
    rcases this.1 with h | h
    · exact .inl h
    · exact .inr (by omega)

def baseP (c : api_Code) (i : api_Inst) : List Int := if i.Op = 11 then (c.Tables.getD i.B.toNat []).filter okP else goesP i
theorem tgP_base (c : api_Code) (i : api_Inst) (q : Int) : tgP c i q = baseP c i ++ (if nextP i = true then [q + 1] else []) := rfl

theorem instAt (f : api_Func) {q : Nat} {i : api_Inst} (hq : f.Code[q]? = some i) : partOf T.T 44 (List.drop (q * 4) (encs c44 f.Code)) 0 = some (.agg (iC i)) := by
  obtain ⟨h1, h2⟩ := List.getElem?_eq_some_iff.1 hq
  have := part_agg (T := T.T) (e := c44) (z := 4) T.t44 rfl rfl f.Code q h1
  rw [this, h2]; rfl

theorem targets_ok {c : api_Code} {f : api_Func} {p A K m : Nat} {td : AV} {bad : Bool} {H : Mem} {n : Nat} (hp : H p = some (.cells (wkC c f A K m td bad) 55)) (hpn : p < n) (q : Nat) (i : api_Inst) (hq : f.Code[q]? = some i) (hi : fitI i = true) (hfl : f.Code.length ≤ 2 ^ 20)
    (hB : i.Op = 11 → i.B < c.Tables.length) (hT : ∀ t ∈ c.Tables, 0 < t.length ∧ t.length ≤ 2 ^ 20) :
    RunQ Try.prog T.T 52 [.own p 0, I q] H n (fun r H' n' => ∃ o, r = slv o (tgP c i q).length ∧ YtcdafogfmijcpaaW.Ah.Own H' 3 c3 o (tgP c i q) ∧ n ≤ n' ∧ (∀ j, o = some j → n ≤ j ∧ j < n') ∧ ∀ j, j < n → H' j = H j) := by
  have hql := (List.getElem?_eq_some_iff.1 hq).1
  have hqli : (q : Int) < f.Code.length := by omega
  have hin := instAt f hq
  have hrng := fit_rng i hi
  have hpn2 : ¬ p = n := by omega
  refine RunQ.ev 9 Try.func52 rfl rfl rfl rfl rfl fun C hr hn => ?_
  simp
  iterate 10 (try (refine evS_sound (f := 2) ?_; simp [hp, hpn2, hql, hqli, hin, partOf_drop]))
  refine Stk.callS 4 (goes_ok i hi) rfl rfl rfl (by simp) ?_
  rintro v H1 n1 ⟨o1, rfl, ho1, hn1, hf1, hk1⟩
  have hb1 : H1 n = some (.cells (iC i) 44) := by rw [hk1 n (by omega)]; simp
  have hk1' : ∀ j, j < n → H1 j = H j := fun j hj => by rw [hk1 j (by omega)]; simp [show ¬ j = n by omega]
  have hp1 := (hk1' p hpn).trans hp
  clear hk1
  simp
  iterate 9 (try (refine evS_sound (f := 1) ?_; simp [hb1, partOf]))
  refine Stk.jn (fun t H' n' => ∃ o, t 6 = slv o (baseP c i).length ∧ t 7 = B (nextP i) ∧ t 1 = I q ∧ YtcdafogfmijcpaaW.Ah.Own H' 3 c3 o (baseP c i) ∧ n < n' ∧ (∀ j, o = some j → n < j ∧ j < n') ∧ ∀ j, j < n → H' j = H j) trivial (fun J hJ => ?_) (fun t H' n' hK => ?_)
  · by_cases h11 : i.Op = 11
    · have hbase : baseP c i = (c.Tables.getD i.B.toNat []).filter okP := by unfold baseP; rw [if_pos h11]
      refine Stk.cond true (by simp [h11]) (fun _ => ?_) (fun e => by cases e)
      have hBt := hB h11
      have hB0 : 0 ≤ i.B := by have := hrng; rw [h11] at this; exact this.2.2.2.2.1
      obtain ⟨b, hb⟩ := Int.eq_ofNat_of_zero_le hB0
      have hbl : b < c.Tables.length := by omega
      have hbli : (b : Int) < c.Tables.length := by omega
      obtain ⟨xs, hxs⟩ : ∃ xs, c.Tables[b] = xs := ⟨_, rfl⟩
      have hgd : c.Tables.getD i.B.toNat [] = xs := by rw [hb, Int.toNat_natCast, List.getD_eq_getElem?_getD, List.getElem?_eq_getElem hbl, hxs]; rfl
      rw [hgd] at hbase
      obtain ⟨hx0, hx1⟩ := hT xs (by rw [← hxs]; exact List.getElem_mem hbl)
      have hix : partOf T.T 47 (List.drop b (encs c47 c.Tables)) 0 = some (.ssl (encs c3 xs) xs.length false) := by
        have hc := cell_own (e := c47) (z := 1) c.Tables [] b 0 hbl (by omega)
        rw [List.append_nil, hxs] at hc
        simp only [partOf, T.t47]
        simpa [aggK] using hc
      refine Stk.rgD [.rd [], .rd [], .rd [], .rd [], .rd [p], .rd [], .rd [n], .rd [], .rd [], .mem [] n1, .mem [] n1, .rd []] none (by kernel_rfl) (drawOk2_ren [p, n] (by simp; omega) n1 [.rd [], .rd [], .rd [], .rd [], .rd [0], .rd [], .rd [1], .rd [], .rd [], .mem [] 0, .mem [] 0, .rd []] rfl (by rfl)) rfl (by simp [below]; omega) rfl ?_
      iterate 6 (try (refine evS_sound (f := 2) ?_; simp [hp1, hb1, hb, hbl, hbli, hix]))
      refine Stk.callSD 4 rfl ?_ (clone62 xs hx0 hx1) rfl rfl rfl rfl (by simp) ?_
      · rintro v H' n' ⟨j, ys, _, _, _, _, hk2⟩ j2 hj2 _
        exact hk2 j2 hj2
      rintro v H2 n2 ⟨j, ys, rfl, hj, hj1, hj2, hk2⟩
      simp
      refine Stk.callSD 4 rfl ?_ (delete61 xs ys hj hj2 hx1) rfl rfl rfl rfl (by simp) ?_
      · rintro v H' n' ⟨ys, _, _, _, hk3⟩ j2 hj2 _
        exact hk3 j2 (by omega)
      rintro v H3 n3 ⟨ys2, rfl, hj3, hn3, hk3⟩
      simp
      iterate 6 (try (refine evS_sound (f := 2) ?_; simp))
      refine hJ _ _ _ ⟨some j, by simp [hbase], by simp, by simp, by rw [hbase]; exact ⟨ys2, hj3⟩, by omega, (fun j' hj' => by cases hj'; omega), fun j' hj' => by rw [hk3 j' (by omega), hk2 j' (by omega), hk1' j' hj']⟩
    · have hbase : baseP c i = goesP i := by unfold baseP; rw [if_neg h11]
      refine Stk.cond false (by simp [h11]) (fun e => by cases e) (fun _ => ?_)
      refine Stk.sk (Stk.ln 0 (by omega) (hJ _ _ _ ⟨o1, by simp [hbase], by simp, by simp, by rw [hbase]; exact ho1, by omega, fun j hj => by have := hf1 j hj; omega, hk1'⟩))
  · obtain ⟨o, t6, t7, t1, ho, hn', hf, hk⟩ := hK
    cases hnx : nextP i with
    | false =>
      have htg : tgP c i q = baseP c i := by rw [tgP_base, hnx]; simp
      rw [hnx] at t7
      iterate 9 (try (refine evS_sound (f := 4) ?_; simp [t7, t6]))
      refine hr _ _ _ (slv o (baseP c i).length) (by simp) ⟨o, by rw [htg], by rw [htg]; exact ho, by omega, fun j hj => by have := hf j hj; omega, hk⟩
    | true =>
      have htg : tgP c i q = baseP c i ++ [(q : Int) + 1] := by rw [tgP_base, hnx]; simp
      rw [hnx] at t7
      have wq : IntKind.i64.wrap ((q : Int) + 1) = (q : Int) + 1 := wrap64_id (by omega) (by omega)
      have hbl : (baseP c i).length ≤ 2 ^ 40 := by
        unfold baseP
        split
        · rename_i h11
          have hle := List.length_filter_le okP (c.Tables.getD i.B.toNat [])
          have : (c.Tables.getD i.B.toNat []).length ≤ 2 ^ 20 := by
            rw [List.getD_eq_getElem?_getD]
            cases hg : c.Tables[i.B.toNat]? with
            | none => simp
            | some x => exact (hT x (List.mem_of_getElem? hg)).2
          omega
        · unfold goesP
          rw [if_pos hi]
          split <;> simp
      obtain ⟨b, H3, n3, e3, o3, le3, f3, l3, k3⟩ := moreI ho (fun j hj => (hf j hj).2) hbl ((q : Int) + 1)
      iterate 9 (try (refine evS_sound (f := 4) ?_; simp [t7, t6, t1, wq, e3]))
      refine hr _ _ _ (.osl b 0 ((baseP c i).length + 1) none) (by simp) ⟨some b, by rw [htg]; simp, by rw [htg]; exact o3, by omega, fun j hj => ?_, fun j hj => by rw [k3 j (by omega) (fun e => by have := hf j e; omega), hk j hj]⟩
      cases hj
      refine ⟨?_, l3⟩
      rcases f3 with h | h
      · have := hf _ h; omega
      · omega
end Go.Proofs.Ytcdafogfmijcpaa.Flo
namespace Go.Proofs.Ytcdafogfmijcpaa.Flo
open Go.Proofs.YtcdafogfmijcpaaW.Ah
open M (api_Code api_Func api_Inst c3 c4 c9 c22 c26 c36 c41 c42 c44 c47 c51 StF RowT cRow rowsT row0 fitI rowI iC takesP putsP goesP nextP allP wantsP thereP putP tgP comeP comeW comesW joinR outP stpC mu)
set_option maxRecDepth 8000
set_option linter.unusedVariables false
set_option linter.unusedSimpArgs false
attribute [local simp] T.t2 T.t3 T.t4 T.t9 T.t22 T.t23 T.t24 T.t26 T.t29 T.t36 T.t39 T.t41 T.t42 T.t44 T.t47 T.t53 T.t55 T.t76 T.t92 T.t93 T.t95 T.t104 T.t106 Op.maxDepth List.range List.range.loop
attribute [-simp] appendAV

/-- What places there are. -/
structure Kn (S : Nat) (s : StF × List Nat) : Prop where
  kn : ∀ q ∈ s.2, ∃ x, s.1[q]? = some (some x)
  wf : ∀ (q : Nat) (x : M.Row), s.1[q]? = some (some x) → x.length ≤ S
  ms : 2 * mu S s.1 + s.2.length ≤ 2 ^ 39
theorem Kn.come {S : Nat} {s s' : StF × List Nat} {to : Nat} {o : M.Row} (h : Kn S s) (hc : comeW S s to o = some s') : Kn S s' ∧ s'.1.length = s.1.length := by
  unfold M.comeW at hc
  cases hp : comeP S s.1 to o with
  | none => rw [hp] at hc; cases hc
  | some r =>
    obtain ⟨st', ch⟩ := r
    rw [hp] at hc
    simp only [Option.some.injEq] at hc
    obtain ⟨up, into⟩ := M.come_up hp
    subst hc
    refine ⟨⟨fun q hq => ?_, up.wf h.wf, ?_⟩, up.le.1.symm⟩
    · have hq : q ∈ (if (ch && !(s.2.contains to)) = true then s.2 ++ [to] else s.2) := hq
      have old : q ∈ s.2 → ∃ x, st'[q]? = some (some x) := fun hq => by
        obtain ⟨x, hx⟩ := h.kn q hq
        obtain ⟨y, hy, _⟩ := up.le.2 q x hx
        exact ⟨y, hy⟩
      split at hq
      · rcases List.mem_append.1 hq with h | h
        · exact old h
        · simp only [List.mem_singleton] at h; subst h; exact up.kn
      · exact old hq
    · have := h.ms
      show 2 * mu S st' + (if _ then _ else _ : List Nat).length ≤ _
      cases hch : ch with
      | true =>
        have := up.less hch
        split <;> (try simp only [List.length_append, List.length_singleton]) <;> omega
      | false =>
        rw [up.same hch]
        simpa using this

theorem to_nonneg (i : api_Inst) (hi : fitI i = true) (h : 0 ≤ (rowI i).to) : 0 ≤ allP i (rowI i).to := by
  obtain ⟨h0, h16, hA, _, hB, _, hC, _, hr⟩ := fit_rng i hi
  have key : ∀ k : Nat, k < 16 → ((rowsT.getD k row0).to = 0 → (rowsT.getD k row0).l0 = 0) ∧ ((rowsT.getD k row0).to = 1 → (rowsT.getD k row0).l1 = 0) ∧ (¬ (rowsT.getD k row0).to = 0 → ¬ (rowsT.getD k row0).to = 1 → 0 ≤ (rowsT.getD k row0).to → (rowsT.getD k row0).l2 = 0) := by decide
  have hk := key i.Op.toNat (by omega)
  rw [← hr] at hk hA hB hC
  unfold allP
  split
  · rename_i e; rw [hk.1 e] at hA; exact hA
  · rename_i e
    split
    · rename_i e1; rw [hk.2.1 e1] at hB; exact hB
    · rename_i e1; rw [hk.2.2 e e1 h] at hC; exact hC
theorem tg_nonneg (c : api_Code) (i : api_Inst) (hi : fitI i = true) (q : Nat) : ∀ t ∈ tgP c i q, 0 ≤ t := by
  intro t ht
  rw [tgP_base] at ht
  rcases List.mem_append.1 ht with h | h
  · unfold baseP at h
    split at h
    · have := (List.mem_filter.1 h).2; simpa [okP] using this
    · unfold M.goesP at h
      rw [if_pos hi] at h
      split at h
      · rename_i hto
        simp only [List.mem_singleton] at h
        subst h; exact to_nonneg i hi hto
      · cases h
  · split at h
    · simp only [List.mem_singleton] at h; omega
    · cases h
theorem tg_len (c : api_Code) (i : api_Inst) (hi : fitI i = true) (hT : ∀ t ∈ c.Tables, 0 < t.length ∧ t.length ≤ 2 ^ 20) (q : Int) : (tgP c i q).length ≤ 2 ^ 20 + 2 := by
  rw [tgP_base, List.length_append]
  have h1 : (baseP c i).length ≤ 2 ^ 20 + 1 := by
    unfold baseP
    split
    · have hle := List.length_filter_le okP (c.Tables.getD i.B.toNat [])
      have : (c.Tables.getD i.B.toNat []).length ≤ 2 ^ 20 := by
        rw [List.getD_eq_getElem?_getD]
        cases hg : c.Tables[i.B.toNat]? with
        | none => simp
        | some x => exact (hT x (List.mem_of_getElem? hg)).2
      omega
    · unfold M.goesP
      rw [if_pos hi]
      split <;> simp
  have h2 : (if nextP i = true then [q + 1] else [] : List Int).length ≤ 1 := by split <;> simp
  omega
theorem tk_nonneg (i : api_Inst) (hi : fitI i = true) : 0 ≤ takesP i ∧ takesP i ≤ 2 ^ 20 := by
  obtain ⟨h0, h16, hA, hA2, hB, hB2, hC, _, hr⟩ := fit_rng i hi
  have k1 : ∀ k : Nat, k < 16 → (k = 3 ∨ k = 6) → (rowsT.getD k row0).l1 = 1 ∧ (rowsT.getD k row0).m1 = 6 := by decide
  have k2 : ∀ k : Nat, k < 16 → k = 8 → (rowsT.getD k row0).l0 = 1 ∧ (rowsT.getD k row0).m0 = 8192 := by decide
  have k3 : ∀ k : Nat, k < 16 → (k = 3 ∨ k = 6 ∨ k = 5 ∨ k = 8 ∨ (0 ≤ (rowsT.getD k row0).takes ∧ (rowsT.getD k row0).takes ≤ 2)) := by decide
  have g1 := k1 i.Op.toNat (by omega)
  have g2 := k2 i.Op.toNat (by omega)
  have g3 := k3 i.Op.toNat (by omega)
  rw [← hr] at g1 g2 g3 hA hB hC hA2 hB2
  unfold M.takesP
  rw [if_pos hi]
  split
  · rename_i e; have := g1 (by omega); omega
  · rename_i e
    split
    · unfold M.wantsP; split <;> (try split) <;> omega
    · rename_i e5
      split
      · rename_i e8; have := g2 (by omega); omega
      · rename_i e8
        rcases g3 with h | h | h | h | h <;> omega

/-- What is asked of a code. -/
structure Okc (c : api_Code) (f : api_Func) (S : Nat) : Prop where
  sl : f.Slots = S
  sle : S ≤ 8192
  cl : f.Code.length ≤ 2 ^ 20
  fit : ∀ (q : Nat) (i : api_Inst), f.Code[q]? = some i → fitI i = true
  tab : ∀ t ∈ c.Tables, 0 < t.length ∧ t.length ≤ 2 ^ 20

theorem moreB {H : Mem} {n j : Nat} {v : AV} {b : M.Row} (hb : OwnB H v j b) (hj : j < n) (hl : b.length ≤ 2 ^ 20) (y : Bool) :
    ∃ j' v' H' n', appendAV T.T (upd H n (some (.cells [B y] 4))) (n + 1) 42 v (.osl n 0 1 (some 1)) = some (v', H', n') ∧ OwnB H' v' j' (b ++ [y]) ∧ n ≤ n' ∧ (j' = j ∨ n ≤ j') ∧ j' < n' ∧ ∀ q, q < n → q ≠ j → H' q = H q := by
  obtain ⟨cc, ys, rfl, h1, h2⟩ := hb
  obtain ⟨o', c', H', n', e1, o1, le1, f1, k1⟩ := append_ownC (e := c4) (z := 1) T.t42 rfl T.t4 rfl (by decide) rfl (by decide) (H := upd H n (some (.cells [B y] 4))) (n := n + 1) (o := some j) (c := cc) (xs := b)
    ⟨ys, by rw [upd_ne _ _ (by omega), h1], h2⟩ (fun i hi => by cases hi; omega) (y := .osl n 0 1 (some 1)) [y] (by simp [encs, elemsOf]) rfl (by simp [roomMax]; omega) (by simp [roomMax]; omega)
  cases o' with
  | none => simp [OwnC] at o1
  | some i =>
    have := f1 i rfl
    obtain ⟨zs, g1, g2⟩ := o1
    refine ⟨i, _, H', n', e1, ⟨c', zs, rfl, g1, g2⟩, by omega, ?_, this.2, fun q hq hne => by rw [k1 q (by omega) (fun e => by cases e; exact hne rfl), upd_ne _ _ (by omega)]⟩
    rcases this.1 with h | h
    · cases h; exact .inl rfl
    · exact .inr (by omega)

theorem step_ok {c : api_Code} {f : api_Func} {p A K : Nat} {role : Nat → Option Role} {H : Mem} {n : Nat} {st : StF} {todo : List Nat} (w : Wkr c f p A K role H n st todo false) {S : Nat} (ok : Okc c f S) (kn : Kn S (st, todo)) {q : Nat} {x : M.Row} (hx : st[q]? = some (some x)) :
    RunQ Try.prog T.T 32 [.own p 0, I q] H n (fun r H' n' => r = .tup [] ∧ match stpC c f q x with
      | none => WRes c f p A K role H n H' n' st todo true
      | some (o, l) => match comesW S o l (st, todo) with
        | none => ∃ st2 todo2, WRes c f p A K role H n H' n' st2 todo2 true
        | some s' => WRes c f p A K role H n H' n' s'.1 s'.2 false) := by
  obtain ⟨ot, hp, hot, hotr⟩ := w.hp
  obtain ⟨hv, hA, hvl, hrow⟩ := w.hA
  have hpn : p < n := w.lt p (by rw [w.rp]; simp)
  have hAn : A < n := w.lt A (by rw [w.rA]; simp)
  have hpA : p ≠ A := fun e => by have h1 := w.rp; rw [e, w.rA] at h1; cases h1
  have hsl := w.sl
  have hqs : q < st.length := (List.getElem?_eq_some_iff.1 hx).1
  obtain ⟨i, hi⟩ : ∃ i, f.Code[q]? = some i := ⟨_, List.getElem?_eq_getElem (by omega)⟩
  have hfit := ok.fit q i hi
  obtain ⟨v, hvq, io, co, yo, rfl, hio, hior, hcc⟩ := hrow q _ hx
  have hion : io < n := w.lt io (by rw [hior]; simp)
  have hiop : io ≠ p := fun e => by rw [e, w.rp] at hior; cases hior
  have hxS := kn.wf q x hx
  have hS := ok.sle
  have hql : q < f.Code.length := by omega
  have hqli : (q : Int) < f.Code.length := by omega
  have hqsi : (q : Int) < st.length := by omega
  have hcl := ok.cl
  have hin := instAt f hi
  have hvl2 : q < hv.length := by omega
  have hvg : hv[q] = .osl io 0 x.length co := by rw [List.getElem?_eq_getElem hvl2] at hvq; simpa using hvq
  have hpv : partOf T.T 42 hv q = some (.osl io 0 x.length co) := by simp only [partOf, T.t42]; simpa [aggK] using hvq
  obtain ⟨tk0, tk1⟩ := tk_nonneg i hfit
  have hstp : stpC c f q x = if (takesP i).toNat ≤ x.length ∧ thereP c i ((x.length - (takesP i).toNat : Nat) : Int) = true then some (outP i x, (tgP c i q).map Int.toNat) else none := by
    unfold M.stpC; rw [hi]
  rw [hstp]
  obtain ⟨tk, htk⟩ := Int.eq_ofNat_of_zero_le tk0
  have htn : (takesP i).toNat = tk := by omega
  rw [htn]
  have bad : ∀ (H1 H' : Mem) (n' : Nat), n ≤ n' → (∀ j, j < n → H1 j = H j) → H' p = some (.cells (wkC c f A K st.length (slv ot todo.length) true) 55) → (∀ j, j ≠ p → H' j = H1 j) → WRes c f p A K role H n H' n' st todo true := fun H1 H' n' hn hk h1 h2 => by
    have w1 : Wkr c f p A K role H1 n' st todo false := w.far hn (fun j hj _ => hk j hj)
    refine ⟨hn, fun j hj hr => by rw [h2 j (fun e => by rw [e, w.rp] at hr; cases hr), hk j hj], role, fun _ _ => rfl, w1.flag (fun ot2 h => ?_) h1 h2⟩
    rw [hk p hpn, hp] at h
    simp only [Option.some.injEq, Blk.cells.injEq, List.cons.injEq, and_true, true_and] at h
    rw [h]
  refine RunQ.ev 0 Try.func32 rfl rfl rfl rfl rfl fun C hr hn => ?_
  iterate 2 (try (refine evS_sound (f := 1) ?_; simp))
  refine Stk.rgD [.rd [], .rd [], .rd [], .rd [], .rd [p], .rd [], .rd [], .rd [], .rd [], .rd [], .rd [], .rd [p], .rd [], .rd [A], .rd [A], .mem [] n, .mem [] n, .rd []] none (by kernel_rfl) (drawOk2_ren [p, A] (by simp; omega) n [.rd [], .rd [], .rd [], .rd [], .rd [0], .rd [], .rd [], .rd [], .rd [], .rd [], .rd [], .rd [0], .rd [], .rd [1], .rd [1], .mem [] 0, .mem [] 0, .rd []] rfl (by rfl)) rfl (by simp [below]; omega) rfl ?_
  iterate 12 (try (refine evS_sound (f := 2) ?_; simp [hp, hA, hql, hqli, hqs, hqsi, hin, hpv, partOf_drop]))
  refine ⟨fun j h1 h2 => by omega, ?_⟩
  iterate 2 (try (refine evS_sound (f := 1) ?_; simp [splice]))
  refine ⟨fun j h1 h2 => by omega, ?_⟩
  iterate 3 (try (refine evS_sound (f := 1) ?_; simp))
  obtain ⟨H1, hH1⟩ : ∃ H1 : Mem, H1 = upd (upd H n (some (.cells [.sc (.int .i64 0), .sc (.int .i64 0), .sc (.int .i64 0), .sc (.int .i64 0)] 44))) n (some (.cells (iC i) 44)) := ⟨_, rfl⟩
  rw [← hH1]
  have hk1 : ∀ j, j < n → H1 j = H j := fun j hj => by rw [hH1, upd_ne _ _ (by omega), upd_ne _ _ (by omega)]
  have hb1 : H1 n = some (.cells (iC i) 44) := by rw [hH1, upd_same]
  have hp1 := (hk1 p hpn).trans hp
  have hio1 := (hk1 io hion).trans hio
  clear hH1
  refine Stk.gen (fun t H' n' => t 0 = .own p 0 ∧ t 1 = I q ∧ t 4 = .own n 0 ∧ t 5 = .osl io 0 x.length co ∧ H' = H1 ∧ n' = n + 1) ⟨by simp, by simp, by simp, by simp, rfl, rfl⟩ ?_
  rintro t H' n' ⟨t0, t1, t4, t5, hHe, hne⟩
  rw [hHe, hne]
  clear hHe hne
  have hpn2 : ¬ p = n := by omega
  iterate 4 (try (refine evS_sound (f := 1) ?_; simp [t4, hb1, partOf]))
  have htake := takes_ok i hfit
  rw [htk] at htake
  refine Stk.callF 4 htake rfl rfl rfl (by simp) rfl rfl ?_
  have hw : IntKind.i64.wrap ((x.length : Int) - tk) = (x.length : Int) - tk := wrap64_id (by omega) (by omega)
  by_cases hle : tk ≤ x.length
  · obtain ⟨L, hL⟩ : ∃ L, x.length - tk = L := ⟨_, rfl⟩
    rw [hL] at hr hn
    have hw : IntKind.i64.wrap ((x.length : Int) - tk) = (L : Int) := by rw [hw]; omega
    have hlt0 : ¬ (L : Int) < 0 := by omega
    simp
    iterate 12 (try (refine evS_sound (f := 2) ?_; simp [t0, t4, t5, hb1, partOf, hw, hlt0]))
    refine Stk.callS 2 (misses_ok (left := (L : Int)) hp1 (by omega) i hfit) rfl rfl rfl (by simp) ?_
    rintro v H2 n2 ⟨rfl, hn2, hk2⟩
    have hk2' : ∀ j, j < n → H2 j = H j := fun j hj => by rw [hk2 j (by omega), hk1 j hj]
    have hb2 := (hk2 n (by omega)).trans hb1
    have hp2 := (hk2' p hpn).trans hp
    have hio2 := (hk2' io hion).trans hio
    cases hth : thereP c i (L : Int) with
    | false =>
      rw [hth, if_neg (fun h => by cases h.2)] at hr
      simp
      iterate 12 (try (refine evS_sound (f := 2) ?_; simp [t0, hp2, partOf, splice]))
      refine hr _ _ _ (.tup []) (by simp) ⟨rfl, bad H2 _ _ (by omega) hk2' (by simp) (fun j hj => by simp [hj])⟩
    | true =>
      rw [hth, if_pos ⟨hle, rfl⟩] at hr hn
      have hlen : (encs c4 x ++ yo).length = x.length + yo.length := by rw [List.length_append, length_encs (e := c4), Nat.mul_one]
      have hLx : L ≤ x.length := by omega
      simp
      iterate 3 (try (refine evS_sound (f := 1) ?_; simp))
      refine Stk.rg ?_
      refine Stk.run 4 (fun t' H' n' => t' 0 = .own p 0 ∧ t' 1 = I q ∧ t' 4 = .own n 0 ∧ t' 5 = .osl io 0 x.length co ∧ t' 7 = I (putsP i) ∧ t' 8 = I L ∧ t' 50 = .osl io 0 L (some L) ∧ H' = H2 ∧ n' = n2) (fun J hJ => ?_) ?_
      · cases co with
        | none =>
          have hL1 : L ≤ x.length + yo.length := by omega
          have hL2 : (L : Int) ≤ (x.length : Int) + (yo.length : Int) := by omega
          simp [t5, hio2, hlen, hL1, hL2]
          exact hJ _ _ _ ⟨by simp [t0], by simp [t1], by simp [t4], by simp [t5], by simp, by simp, by simp, rfl, rfl⟩
        | some cq =>
          have hL1 : L ≤ cq := by have := (hcc cq rfl).1; omega
          simp [t5, hio2, hL1]
          exact hJ _ _ _ ⟨by simp [t0], by simp [t1], by simp [t4], by simp [t5], by simp, by simp, by simp, rfl, rfl⟩
      rintro t2 H' n' ⟨u0, u1, u4, u5, u7, u8, u50, hHe, hne⟩
      rw [hHe, hne]
      clear hHe hne
      have hel : elemsOf H2 1 (.osl io 0 L (some L)) = some (L, encs c4 (x.take L)) := by
        simp only [elemsOf, hio2]
        rw [if_pos (by rw [hlen]; omega), List.drop_zero]
        have e : encs c4 x = encs c4 (x.take L) ++ encs c4 (x.drop L) := by rw [← encs_append, List.take_append_drop]
        rw [e, List.append_assoc, List.take_left' (by rw [length_encs (e := c4), List.length_take]; omega)]
      obtain ⟨b0, hb0⟩ : ∃ b0 : M.Row, x.take L = b0 := ⟨_, rfl⟩
      rw [hb0] at hel
      have hb0l : b0.length = L := by rw [← hb0, List.length_take]; omega
      simp
      refine Stk.callS 2 (clone47 hel hb0l (by omega) (by omega)) rfl rfl rfl (by simp [u50]) ?_
      rintro v H3 n3 ⟨j, hOj, hj1, hj2, hk3⟩
      have hk3' : ∀ j, j < n → H3 j = H j := fun j hj => by rw [hk3 j (by omega), hk2' j hj]
      have hb3 := (hk3 n (by omega)).trans hb2
      have hp3 := (hk3' p hpn).trans hp
      have hio3 := (hk3' io hion).trans hio
      simp
      iterate 2 (try (refine evS_sound (f := 1) ?_; simp))
      obtain ⟨out1, hout1⟩ : ∃ out1 : M.Row, b0 ++ (if 0 < putsP i then [putP i x] else []) = out1 := ⟨_, rfl⟩
      iterate 4 (try (refine evS_sound (f := 1) ?_; simp [u7]))
      have h2A : i.Op = 2 → 0 ≤ i.A ∧ i.A < x.length := fun e => by
        have hr := fit_rng i hfit
        rw [e] at hr
        have ht := hth
        unfold M.thereP at ht
        rw [if_neg (by omega), if_neg (by omega), if_neg (by omega), if_pos (.inl e)] at ht
        have : i.A < (L : Int) := by simpa using ht
        have h0 : (0 : Int) ≤ i.A := hr.2.2.1
        exact ⟨h0, by omega⟩
      have h8A : i.Op = 8 → 0 < x.length := fun e => by
        have h1 : takesP i = i.A + 1 := by unfold M.takesP; rw [if_pos hfit, if_neg (by omega), if_neg (by omega), if_pos e]
        have hr := fit_rng i hfit
        rw [e] at hr
        have h0 : (1 : Int) ≤ i.A := hr.2.2.1
        omega
      refine Stk.jn (fun t' H' n' => t' 0 = .own p 0 ∧ t' 1 = I q ∧ t' 4 = .own n 0 ∧ t' 5 = .osl io 0 x.length co ∧ t' 8 = I L ∧ n3 ≤ n' ∧ (∀ j, j ≤ n → H' j = H3 j) ∧ ∃ j', n < j' ∧ j' < n' ∧ OwnB H' (t' 9) j' out1) trivial (fun J hJ => ?_) (fun t3 H4 n4 hK => ?_)
      · by_cases hP : 0 < putsP i
        · rw [if_pos hP] at hout1
          refine Stk.cond true (by simp [hP]) (fun _ => ?_) (fun e => by cases e)
          obtain ⟨j', v', H4, n4, e4, o4, le4, f4, l4, k4⟩ := moreB hOj hj2 (by omega) (putP i x)
          iterate 6 (try (refine evS_sound (f := 1) ?_; simp [u4, u5, hb3, partOf]))
          refine Stk.callB 2 [io] (puts_ok i x h2A h8A (by omega)) rfl rfl rfl (by simp) (.cons (.free rfl) (.cons (view_ownC (e := c4) (z := 1) (o := some io) (c := co) M.fr4 ⟨yo, hio3, hcc⟩ (fun i hi => by cases hi; simp)) .nil)) rfl ?_
          simp [e4]
          iterate 6 (try (refine evS_sound (f := 1) ?_; simp))
          refine hJ _ _ _ ⟨by simp [u0], by simp [u1], by simp [u4], by simp [u5], by simp [u8], le4, fun q hq => k4 q (by omega) (by omega), j', ?_, l4, by rw [← hout1]; simpa using o4⟩
          rcases f4 with h | h <;> omega
        · rw [if_neg hP, List.append_nil] at hout1
          refine Stk.cond false (by simp [hP]) (fun e => by cases e) (fun _ => ?_)
          refine Stk.sk (Stk.ln 0 (by omega) (hJ _ _ _ ⟨by simp [u0], by simp [u1], by simp [u4], by simp [u5], by simp [u8], Nat.le_refl _, fun _ _ => rfl, j, by omega, hj2, by rw [← hout1]; simpa using hOj⟩))
      · obtain ⟨v0, v1, v4, v5, v8, hn34, hk4, j', hj'1, hj'2, cj, yj, v9, hj', hjc⟩ := hK
        have hk4' : ∀ q, q < n → H4 q = H q := fun q hq => by rw [hk4 q (by omega), hk3' q hq]
        have hb4 := (hk4 n (by omega)).trans hb3
        have hp4 := (hk4' p hpn).trans hp
        have hio4 := (hk4' io hion).trans hio
        have hout1l : L ≤ out1.length := by rw [← hout1, List.length_append]; omega
        have hout1u : out1.length ≤ L + 1 := by rw [← hout1, List.length_append]; split <;> simp <;> omega
        have hout : outP i x = if i.Op = 14 then out1.set i.A.toNat (x.getD L false) else out1 := by
          unfold M.outP
          rw [htn, hL]
          dsimp only
          rw [hb0, hout1]
        iterate 7 (try (refine evS_sound (f := 1) ?_; simp [v4, hb4, partOf]))
        refine Stk.jn (fun t' H' n' => t' 0 = .own p 0 ∧ t' 1 = I q ∧ n' = n4 ∧ (∀ j, j < n → H' j = H j) ∧ ∃ cj yj, t' 9 = .osl j' 0 (outP i x).length cj ∧ H' j' = some (.cells (encs c4 (outP i x) ++ yj) 4)) trivial (fun J hJ => ?_) (fun t4 H5 n5 hK => ?_)
        · by_cases h14 : i.Op = 14
          · rw [if_pos h14] at hout
            refine Stk.cond true (by simp [h14]) (fun _ => ?_) (fun e => by cases e)
            have hr14 := fit_rng i hfit
            have hA0 : 0 ≤ i.A := by rw [h14] at hr14; exact hr14.2.2.1
            obtain ⟨a, ha⟩ := Int.eq_ofNat_of_zero_le hA0
            have haL : a < L := by
              have ht := hth
              unfold M.thereP at ht
              rw [if_neg (by omega), if_neg (by omega), if_neg (by omega), if_pos (by omega)] at ht
              have : i.A < (L : Int) := by simpa using ht
              omega
            have htk1 : takesP i = 1 := by
              unfold M.takesP
              rw [if_pos hfit, if_neg (by omega), if_neg (by omega), if_neg (by omega), hr14.2.2.2.2.2.2.2.2, h14]; rfl
            have hLx1 : L < x.length := by omega
            have hLxi : (L : Int) < x.length := by omega
            have hal : a < out1.length := by omega
            have hali : (a : Int) < out1.length := by omega
            have hcx : partOf T.T 4 (encs c4 x ++ yo) L = some (B (x.getD L false)) := by
              have hc := cell_own (e := c4) (z := 1) x yo L 0 hLx1 (by omega)
              simp only [partOf, T.t4]
              rw [List.getD_eq_getElem?_getD, List.getElem?_eq_getElem hLx1]
              simpa [aggK] using hc
            have hpA : partOf T.T 3 (iC i) 1 = some (I i.A) := rfl
            have hsp : splice (encs c4 out1 ++ yj) a [B (x.getD L false)] = encs c4 (out1.set a (x.getD L false)) ++ yj := by
              have := splice_own (e := c4) (z := 1) out1 yj a hal (x.getD L false)
              rw [Nat.mul_one] at this; exact this
            have hll : a + 1 ≤ (encs c4 out1 ++ yj).length := by rw [List.length_append, length_encs (e := c4)]; omega
            rw [ha, Int.toNat_natCast] at hout
            rw [ha] at hpA
            generalize x.getD L false = y at hcx hsp hout
            refine Stk.rgD [.rd [], .rd [], .rd [n], .rd [], .rd [], .rd [io], .rd [io], .rd [j'], .mem [j'] n4] none (by kernel_rfl) (drawOk2_ren [n, io, j'] (by simp; omega) n4 [.rd [], .rd [], .rd [0], .rd [], .rd [], .rd [1], .rd [1], .rd [2], .mem [2] 0] rfl (by rfl)) rfl (by simp [below]; omega) rfl ?_
            iterate 12 (try (refine evS_sound (f := 1) ?_; simp [v4, v5, v8, v9, hb4, hio4, hj', hpA, hcx, hLxi, hLx1, hali, hal, hsp, hll, -List.length_append]))
            refine ⟨fun j h1 h2 h3 => absurd h3 h2, ?_⟩
            iterate 3 (try (refine evS_sound (f := 1) ?_; simp))
            refine hJ _ _ _ ⟨by simp [v0], by simp [v1], rfl, fun q hq => by rw [upd_ne _ _ (by omega), hk4' q hq], cj, yj, by rw [hout]; simp [v9], ?_⟩
            rw [hout]
            have h := hsp; unfold splice at h; simpa using h
          · rw [if_neg h14] at hout
            refine Stk.cond false (by simp [h14]) (fun e => by cases e) (fun _ => ?_)
            refine Stk.sk (Stk.ln 0 (by omega) (hJ _ _ _ ⟨by simp [v0], by simp [v1], rfl, hk4', cj, yj, by rw [hout]; simpa using v9, by rw [hout]; exact hj'⟩))
        · obtain ⟨x0, x1, hne, hk5, cj, yj, x9, hj5⟩ := hK
          subst hne
          have hp5 := (hk5 p hpn).trans hp
          have hB : i.Op = 11 → i.B < c.Tables.length := fun h11 => by
            have ht := hth
            unfold M.thereP at ht
            rw [if_neg (by omega), if_neg (by omega), if_pos h11] at ht
            simp only [Bool.and_eq_true, decide_eq_true_eq] at ht
            exact ht.1
          have htg0 := tg_nonneg c i hfit q
          obtain ⟨tg, htg⟩ : ∃ tg, tgP c i (q : Int) = tg := ⟨_, rfl⟩
          have htar := targets_ok (n := n5) hp5 (by omega) q i hi hfit hcl hB ok.tab
          rw [htg] at htar hr hn htg0
          obtain ⟨out, houtE⟩ : ∃ out, outP i x = out := ⟨_, rfl⟩
          rw [houtE] at x9 hj5 hr hn
          clear hout hout1 hj' hjc v9 hk4 hk4' hb4 hp4 hio4 v0 v1 v4 v5 v8
          have rnone : ∀ j, n ≤ j → role j = none := fun j hj => by
            cases h : role j with
            | none => rfl
            | some r => have := w.lt j (by rw [h]; simp); omega
          iterate 5 (try (refine evS_sound (f := 1) ?_; simp [x0, x1]))
          refine Stk.cs htar rfl rfl rfl (by simp) ?_
          rintro v H6 n6 ⟨o, rfl, ho6, hn6, hf6, hk6⟩ t5 ht5
          have hk6' : ∀ q, q < n → H6 q = H q := fun q hq => by rw [hk6 q (by omega), hk5 q hq]
          have hj6 := (hk6 j' hj'2).trans hj5
          refine Stk.run 2 (fun t' H' n' => t' 0 = .own p 0 ∧ t' 9 = .osl j' 0 out.length cj ∧ t' 73 = slv o tg.length ∧ t' 74 = I tg.length ∧ t' 75 = I (0 : Nat) ∧ H' = H6 ∧ n' = n6) (fun J hJ => ?_) ?_
          · subst ht5
            cases o with
            | none =>
              have h0 : tg = [] := ho6
              subst h0
              simp
              exact hJ _ _ _ ⟨by simp [x0], by simp [x9], by simp, by simp, by simp, rfl, rfl⟩
            | some b =>
              simp
              exact hJ _ _ _ ⟨by simp [x0], by simp [x9], by simp, by simp, by simp, rfl, rfl⟩
          rintro t6 H' n' ⟨y0, y9, y73, y74, y75, hHe, hne⟩
          rw [hHe, hne]
          clear hHe hne ht5
          have htgl : tg.length ≤ 2 ^ 40 := by have := tg_len c i hfit ok.tab q; rw [htg] at this; omega
          have w6 : Wkr c f p A K role H6 n6 st todo false := w.far (by omega) (fun j hj _ => hk6' j hj)
          have hdr : ∀ k : Nat, k < tg.length → (tg.map Int.toNat).drop k = (tg.getD k 0).toNat :: (tg.map Int.toNat).drop (k + 1) := fun k hk => by
            rw [List.drop_eq_getElem_cons (by rw [List.length_map]; exact hk), List.getElem_map, List.getD_eq_getElem?_getD, List.getElem?_eq_getElem hk]; rfl
          iterate 2 (try (refine evS_sound (f := 1) ?_; simp))
          refine Stk.loop 4 (fun μ t H' n' => ∃ (k : Nat) (role' : Nat → Option Role) (st' : StF) (todo' : List Nat), k ≤ tg.length ∧ μ = tg.length - k ∧ t 0 = .own p 0 ∧ t 9 = .osl j' 0 out.length cj ∧ t 73 = slv o tg.length ∧ t 74 = I tg.length ∧ t 75 = I k ∧ n6 ≤ n' ∧
            (∀ j, j < n6 → role j = none → H' j = H6 j) ∧ (∀ j, j < n6 → role' j = role j) ∧ Wkr c f p A K role' H' n' st' todo' false ∧ Kn S (st', todo') ∧ comesW S out ((tg.map Int.toNat).drop k) (st', todo') = comesW S out (tg.map Int.toNat) (st, todo)) tg.length
            ⟨0, role, st, todo, by omega, rfl, y0, y9, y73, y74, y75, Nat.le_refl _, fun _ _ _ => rfl, fun _ _ => rfl, w6, kn, rfl⟩ ?_
          rintro J hJ μ t7 H7 n7 ⟨k, role', st', todo', hk, rfl, z0, z9, z73, z74, z75, hn7, hk7, hr7, w7, kn7, hcm⟩
          by_cases hlt : k < tg.length
          · rw [hdr k hlt] at hcm
            have hlti : (k : Int) < tg.length := by omega
            have wk := wrap_succ k (by omega)
            obtain ⟨to, hto⟩ : ∃ to : Nat, tg[k] = (to : Int) := Int.eq_ofNat_of_zero_le (htg0 _ (List.getElem_mem hlt))
            have hgd : (tg.getD k 0).toNat = to := by rw [List.getD_eq_getElem?_getD, List.getElem?_eq_getElem hlt]; simp [hto]
            rw [hgd] at hcm
            obtain ⟨b, hob⟩ : ∃ b, o = some b := by
              cases o with
              | none => have h0 : tg = [] := ho6; subst h0; simp at hlt
              | some b => exact ⟨b, rfl⟩
            subst hob
            obtain ⟨yb, hb6⟩ := ho6
            have hbf := hf6 b rfl
            have hb7 := (hk7 b (by omega) (rnone b (by omega))).trans hb6
            have hj7 := (hk7 j' (by omega) (rnone j' (by omega))).trans hj6
            have hrj : role' j' = none := by rw [hr7 j' (by omega)]; exact rnone j' (by omega)
            have hix : partOf T.T 3 (encs c3 tg ++ yb) k = some (I (to : Nat)) := by
              have hc := cell_own (e := c3) (z := 1) tg yb k 0 hlt (by omega)
              rw [hto] at hc
              simp only [partOf, T.t3]
              simpa [aggK] using hc
            have hm7 := kn7.ms
            simp only at hm7
            have hcome := come_ok w7 ok.sl ok.sle ok.cl (by omega) kn7.kn kn7.wf to (cc := cj) hj7 hrj (by omega)
            rw [slv_some] at z73
            simp [z74, z75, hlti]
            iterate 20 (try (refine evS_sound (f := 1) ?_; simp [z0, z9, z73, z75, hlti, hb7, hix]))
            refine Stk.callS 1 hcome rfl rfl rfl (by simp) ?_
            rintro v H8 n8 ⟨rfl, hv8⟩
            rw [M.comesW] at hcm
            have htr : ∀ {H2 : Mem} {n2 : Nat} {st2 : StF} {todo2 : List Nat} {b2 : Bool}, WRes c f p A K role' H7 n7 H2 n2 st2 todo2 b2 → WRes c f p A K role H n H2 n2 st2 todo2 b2 := fun h =>
              WRes.trans (by omega) (fun j hj hr => by rw [hk7 j (by omega) hr, hk6' j hj]) (fun j hj => hr7 j (by omega)) h
            cases hcw : comeW S (st', todo') to out with
            | none =>
              rw [hcw] at hv8 hcm
              simp only at hv8 hcm
              obtain ⟨n78, hk8, role8, hr8, w8⟩ := hv8
              obtain ⟨ot8, hp8, _, _⟩ := w8.hp
              have hcm2 : comesW S out (tg.map Int.toNat) (st, todo) = none := hcm.symm
              simp only [hcm2] at hr
              simp
              iterate 20 (try (refine evS_sound (f := 1) ?_; simp [z0, hp8, partOf]))
              exact hr _ _ _ (.tup []) (by simp) ⟨rfl, st', todo', htr ⟨n78, hk8, role8, hr8, w8⟩⟩
            | some s' =>
              rw [hcw] at hv8 hcm
              simp only at hv8 hcm
              obtain ⟨st8, todo8⟩ := s'
              have kn8 := (kn7.come hcw).1
              obtain ⟨n78, hk8, role8, hr8, w8⟩ := hv8
              obtain ⟨ot8, hp8, _, _⟩ := w8.hp
              simp
              iterate 20 (try (refine evS_sound (f := 1) ?_; simp [z0, z75, hp8, partOf, wk]))
              refine ⟨_, by omega, hJ _ _ _ _ ⟨k + 1, role8, st8, todo8, hlt, rfl, by simp [z0], by simp [z9], by simp [z73], by simp [z74], by simp, by omega, fun j hj hr => ?_, fun j hj => by rw [hr8 j (by omega), hr7 j hj], w8, kn8, hcm⟩⟩
              rw [hk8 j (by omega) (by rw [hr7 j hj]; exact hr), hk7 j hj hr]
          · have hke : k = tg.length := by omega
            subst hke
            rw [List.drop_of_length_le (by rw [List.length_map]; exact Nat.le_refl _)] at hcm
            have hcm2 : comesW S out (tg.map Int.toNat) (st, todo) = some (st', todo') := hcm.symm
            simp only [hcm2] at hn
            simp [z74, z75]
            iterate 6 (try (refine evS_sound (f := 2) ?_; simp))
            refine hn _ _ _ (.tup []) (by simp) ⟨rfl, by omega, fun j hj hr => by rw [hk7 j (by omega) hr, hk6' j hj], role', fun j hj => hr7 j (by omega), w7⟩
  · have hlt0 : (x.length : Int) - tk < 0 := by omega
    rw [if_neg (fun h => hle h.1)] at hr
    simp
    iterate 24 (try (refine evS_sound (f := 2) ?_; simp [t0, t4, t5, hb1, hp1, partOf, hw, hlt0, splice]))
    refine hr _ _ _ (.tup []) (by simp) ⟨rfl, bad H1 _ _ (by omega) hk1 (by simp) (fun j hj => by simp [hj])⟩
end Go.Proofs.Ytcdafogfmijcpaa.Flo
namespace Go.Proofs.YtcdafogfmijcpaaW.Ah
section
variable {P : Program} {T : Tab} {k : Nat} {t : Nat → AV} {H : Mem} {n : Nat} {C : Cont} {st : List It}
/-- A scope none of whose labels is jumped to. -/
theorem Stk.scopeS {c : Code}
    (h : ∀ C' : Cont, (∀ t H n, Stk P T k st t H n C → C' .normal t H n) → (∀ t H n, C .ret t H n → C' .ret t H n) → Stk P T k [.code c] t H n C') : Stk P T k (.code (.scope c) :: st) t H n C := by
  let Q : Ex → St → Prop := fun e s => match e with | .normal => Stk P T k st s.t s.H s.n C | .ret => C .ret s.t s.H s.n | _ => False
  have h1 := h (fun e t H n => (∀ l', e ≠ .goto l') ∧ Q e ⟨t, H, n⟩) (fun t H n a => ⟨fun l' e => (by cases e), a⟩) (fun t H n a => ⟨fun l' e => (by cases e), a⟩)
  obtain ⟨e, s', q1, ne, q⟩ := EvQ.stk h1
  simp only [Stk]
  refine ⟨e, s', .scope (.straight q1 ne), ?_⟩
  cases e with
  | normal => exact q
  | ret => exact q
  | exit => exact q.elim
  | goto => exact q.elim
end
end Go.Proofs.YtcdafogfmijcpaaW.Ah
namespace Go.Proofs.Ytcdafogfmijcpaa.Flo
open Go.Proofs.YtcdafogfmijcpaaW.Ah
open M (api_Code api_Func api_Inst c3 c4 c9 c22 c26 c36 c41 c42 c44 c47 c51 StF RowT cRow rowsT row0 fitI rowI iC takesP putsP goesP nextP allP wantsP thereP putP tgP comeP comeW comesW joinR outP stpC mu Sol Least InvW)
set_option maxRecDepth 8000
set_option linter.unusedVariables false
set_option linter.unusedSimpArgs false
attribute [local simp] T.t2 T.t3 T.t4 T.t9 T.t22 T.t23 T.t24 T.t26 T.t29 T.t36 T.t39 T.t41 T.t42 T.t44 T.t47 T.t53 T.t55 T.t76 T.t92 T.t93 T.t95 T.t104 T.t106 Op.maxDepth List.range List.range.loop
attribute [-simp] appendAV

theorem snoc_cases {α : Type} : ∀ l : List α, l = [] ∨ ∃ L b, l = L ++ [b]
  | [] => .inl rfl
  | x :: l => by
    rcases snoc_cases l with h | ⟨L, b, h⟩
    · exact .inr ⟨[], x, by rw [h]; rfl⟩
    · exact .inr ⟨x :: L, b, by rw [h]; rfl⟩
theorem repB : ∀ m : Nat, List.replicate m (B false) = encs c4 (List.replicate m false)
  | 0 => rfl
  | m + 1 => by rw [List.replicate_succ, List.replicate_succ, encs_cons, repB m]; rfl
theorem rep_set (P k : Nat) (h : k < P) : (List.replicate k true ++ List.replicate (P - k) false).set k true = List.replicate (k + 1) true ++ List.replicate (P - (k + 1)) false := by
  rw [List.set_append_right _ _ (by simp), List.length_replicate, Nat.sub_self, show P - k = (P - (k + 1)) + 1 by omega, List.replicate_succ, List.set_cons_zero, List.replicate_succ', List.append_assoc]
  rfl

theorem all_ok {c : api_Code} {f : api_Func} {p A K : Nat} {role : Nat → Option Role} {H : Mem} {n : Nat} {S P : Nat} (w : Wkr c f p A K role H n (List.replicate f.Code.length none) [] false) (ok : Okc c f S) (hP : f.Params = P) (hPl : P ≤ 2 ^ 20) (hms : 2 * (f.Code.length * (S + 2)) ≤ 2 ^ 38) :
    RunQ Try.prog T.T 18 [.own p 0] H n (fun r H' n' => r = .tup [] ∧ ((∃ st todo, Least f.Code.length S (List.replicate P true) (stpC c f) st ∧ WRes c f p A K role H n H' n' st todo false) ∨ ((¬ ∃ t, Sol f.Code.length S (List.replicate P true) (stpC c f) t) ∧ ∃ st todo, WRes c f p A K role H n H' n' st todo true))) := by
  obtain ⟨ot, hp, hot, hotr⟩ := w.hp
  have hpn : p < n := w.lt p (by rw [w.rp]; simp)
  have hpn2 : ¬ p = n := by omega
  have rnone : ∀ j, n ≤ j → role j = none := fun j hj => by
    cases h : role j with
    | none => rfl
    | some r => have := w.lt j (by rw [h]; simp); omega
  obtain ⟨first, hfirst⟩ : ∃ first : M.Row, List.replicate P true = first := ⟨_, rfl⟩
  have hflen : first.length = P := by rw [← hfirst, List.length_replicate]
  rw [hfirst]
  refine RunQ.ev 0 Try.func18 rfl rfl rfl rfl rfl fun C hr hn => ?_
  iterate 1 (try (refine evS_sound (f := 1) ?_; simp))
  refine Stk.scopeS fun C' hC1 hC2 => ?_
  have hroom : (P : Int) ≤ (roomMax : Int) := by unfold roomMax; omega
  iterate 12 (try (refine evS_sound (f := 1) ?_; simp [hp, hP, partOf, hroom]))
  rw [repB]
  iterate 6 (try (refine evS_sound (f := 1) ?_; simp))
  refine Stk.loop 4 (fun μ t H' n' => ∃ k : Nat, k ≤ P ∧ μ = P - k ∧ t 0 = .own p 0 ∧ t 2 = .osl n 0 P (some P) ∧ t 13 = I P ∧ t 14 = I k ∧ H' n = some (.cells (encs c4 (List.replicate k true ++ List.replicate (P - k) false)) 4) ∧ (∀ j, j ≠ n → H' j = H j) ∧ n' = n + 1) P
    ⟨0, by omega, rfl, by simp, by simp, by simp, by simp, by simp, fun j hj => by simp [hj], rfl⟩ ?_
  rintro J hJ μ t H1 n1 ⟨k, hk, rfl, t0, t2, t13, t14, hn1, hk1, rfl⟩
  by_cases hlt : k < P
  · have hlti : (k : Int) < P := by omega
    have wk := wrap_succ k (by omega)
    have hxl : (List.replicate k true ++ List.replicate (P - k) false).length = P := by simp; omega
    have hsp : splice (encs c4 (List.replicate k true ++ List.replicate (P - k) false)) k [B true] = encs c4 (List.replicate (k + 1) true ++ List.replicate (P - (k + 1)) false) := by
      have := splice_encs (e := c4) (z := 1) (List.replicate k true ++ List.replicate (P - k) false) k (by omega) true
      rw [Nat.mul_one, rep_set P k hlt] at this; exact this
    have hll : k + 1 ≤ (encs c4 (List.replicate k true ++ List.replicate (P - k) false)).length := by rw [length_encs (e := c4)]; omega
    generalize encs c4 (List.replicate k true ++ List.replicate (P - k) false) = cs at hn1 hsp hll
    simp [t13, t14, hlti]
    iterate 12 (try (refine evS_sound (f := 2) ?_; simp [t2, t14, hlti, hlt, hn1, hll, wk]))
    refine ⟨_, by omega, hJ _ _ _ _ ⟨k + 1, hlt, rfl, by simp [t0], by simp [t2], by simp [t13], by simp, ?_, fun j hj => by simp [hj, hk1 j hj], rfl⟩⟩
    have h := hsp; unfold splice at h; simpa using h
  · have hke : k = P := by omega
    subst hke
    rw [Nat.sub_self, List.replicate_zero, List.append_nil, hfirst] at hn1
    have w1 : Wkr c f p A K role H1 (n + 1) (List.replicate f.Code.length none) [] false := w.far (by omega) (fun j hj _ => hk1 j (by omega))
    have kn0 : Kn S (List.replicate f.Code.length none, []) := by
      refine ⟨fun q hq => (by cases hq), fun q x hx => ?_, by rw [M.mu_rep]; simp; omega⟩
      obtain ⟨h1, h2⟩ := List.getElem?_eq_some_iff.1 hx
      simp at h2
    have hcome := come_ok w1 ok.sl ok.sle ok.cl (by simp) kn0.kn kn0.wf 0 (ob := n) (cc := some k) (xs := first) (ys := []) (by rw [List.append_nil]; exact hn1) (rnone n (Nat.le_refl _)) (by omega)
    rw [hflen] at hcome
    simp [t13, t14]
    iterate 8 (try (refine evS_sound (f := 1) ?_; simp [t0, t2]))
    refine Stk.callS 1 hcome rfl rfl rfl (by simp) ?_
    rintro v H2 n2 ⟨rfl, hv2⟩
    have hbeg := M.beginW_ok (n := f.Code.length) (S := S) (fst := first) (stp := stpC c f) trivial
    obtain ⟨R, hR⟩ : ∃ R : Nat → (Nat → AV) → Mem → Nat → Prop, R = fun μ t H' n' => ∃ (role' : Nat → Option Role) (st : StF) (todo : List Nat) (bad : Bool), t 0 = .own p 0 ∧ n ≤ n' ∧ (∀ j, j < n → role j = none → H' j = H j) ∧ (∀ j, j < n → role' j = role j) ∧ Wkr c f p A K role' H' n' st todo bad ∧
      ((bad = false ∧ InvW f.Code.length S first (stpC c f) (st, todo) ∧ Kn S (st, todo) ∧ μ = 2 * mu S st + todo.length + 1) ∨ (bad = true ∧ (¬ ∃ t, Sol f.Code.length S first (stpC c f) t) ∧ μ = 0)) := ⟨_, rfl⟩
    have hstart : ∀ t' : Nat → AV, t' 0 = .own p 0 → ∃ m, R m t' H2 n2 := by
      intro t' t0
      rw [hR]
      cases hc : comeW S (List.replicate f.Code.length none, []) 0 first with
      | none =>
        rw [hc] at hv2 hbeg
        obtain ⟨g1, g2, role', g3, g4⟩ := hv2
        exact ⟨0, role', _, _, true, t0, by omega, fun j hj hr => by rw [g2 j (by omega) hr, hk1 j (by omega)], fun j hj => g3 j (by omega), g4, .inr ⟨rfl, hbeg, rfl⟩⟩
      | some s' =>
        rw [hc] at hv2 hbeg
        obtain ⟨g1, g2, role', g3, g4⟩ := hv2
        exact ⟨_, role', _, _, false, t0, by omega, fun j hj hr => by rw [g2 j (by omega) hr, hk1 j (by omega)], fun j hj => g3 j (by omega), g4, .inl ⟨rfl, hbeg.1, (kn0.come hc).1, rfl⟩⟩
    simp
    iterate 3 (try (refine evS_sound (f := 1) ?_; simp))
    refine Stk.gen (fun t' H' n' => ∃ m, R m t' H' n') (hstart _ (by simp [t0])) ?_
    rintro t8 H8 n8 ⟨m0, hm0⟩
    refine Stk.loop 4 R m0 hm0 ?_
    clear hm0 hstart hv2 hcome hbeg t0 t2 t13 t14
    rintro J hJ μ t H3 n3 hR3
    have hJ2 := fun m t H n => hJ m t H n
    rw [hR] at hR3 hJ2
    obtain ⟨role', st, todo, bad, t0, hn3, hk3, hr3, w3, hcase⟩ := hR3
    obtain ⟨ot3, hp3, hot3, hotr3⟩ := w3.hp
    have hend : ∀ t' : Nat → AV, ((∃ st todo, Least f.Code.length S first (stpC c f) st ∧ WRes c f p A K role H n H3 n3 st todo false) ∨ ((¬ ∃ t, Sol f.Code.length S first (stpC c f) t) ∧ ∃ st todo, WRes c f p A K role H n H3 n3 st todo true)) → C' .normal t' H3 n3 := fun t' h =>
      hC1 _ _ _ (by first | exact Stk.en (hn _ _ _ (.tup []) (by simp) ⟨rfl, h⟩) | (refine evS_sound (f := 2) ?_; simp; exact hr _ _ _ (.tup []) (by simp) ⟨rfl, h⟩))
    rcases hcase with ⟨hb, inv, kn, hμ⟩ | ⟨hb, hno, hμ⟩
    · subst hb
      rcases snoc_cases todo with h0 | ⟨l, q, h0⟩
      · subst h0
        have hl0 : slv ot3 ([] : List Nat).length = slv ot3 0 := rfl
        rw [hl0] at hp3
        simp [t0]
        cases ot3 with
        | none =>
          iterate 16 (try (refine evS_sound (f := 2) ?_; simp [t0, hp3, partOf]))
          exact hend _ (.inl ⟨st, [], inv.done, hn3, hk3, role', hr3, w3⟩)
        | some b =>
          iterate 16 (try (refine evS_sound (f := 2) ?_; simp [t0, hp3, partOf]))
          exact hend _ (.inl ⟨st, [], inv.done, hn3, hk3, role', hr3, w3⟩)
      · subst h0
        have hll : (l ++ [q]).length = l.length + 1 := by simp
        rw [hll] at hp3 hμ
        obtain ⟨b, hob⟩ : ∃ b, ot3 = some b := by
          cases ot3 with
          | none => have h0 : l ++ [q] = [] := hot3; simp at h0
          | some b => exact ⟨b, rfl⟩
        subst hob
        have hrb := hotr3 b rfl
        have hbp : b ≠ p := fun e => by rw [e, w3.rp] at hrb; cases hrb
        have hpn3 : p < n3 := by omega
        obtain ⟨yb, hb3⟩ := id hot3
        have hms3 := kn.ms
        simp only [hll] at hms3
        have hllt : (l.length : Int) < (l.length : Int) + 1 := by omega
        have hwl : IntKind.i64.wrap ((l.length : Int) + 1 - 1) = l.length := by rw [Int.add_sub_cancel, wrap_nat l.length (by omega)]
        have hwl2 : IntKind.i64.wrap (l.length : Int) = l.length := wrap_nat l.length (by omega)
        have hne : ¬ (l.length : Int) + 1 = 0 := by omega
        have hix : partOf T.T 3 (encs cP (l ++ [q]) ++ yb) l.length = some (I q) := by
          have hc := cell_own (e := cP) (z := 1) (l ++ [q]) yb l.length 0 (by simp) (by omega)
          simp only [partOf, T.t3]
          simpa [aggK] using hc
        obtain ⟨x, hx⟩ := inv.kn q (by simp)
        have hmax : (l.length : Int) ≤ (l.length : Int) + 1 + (yb.length : Int) := by omega
        simp [t0]
        iterate 50 (try (refine evS_sound (f := 1) ?_; simp [t0, hp3, hb3, hllt, hwl, hwl2, hne, hix, hmax, splice]))
        obtain ⟨H4, hH4⟩ : ∃ H4 : Mem, H4 = upd H3 p (some (.cells (wkC c f A K st.length (.osl b 0 l.length none) false) 55)) := ⟨_, rfl⟩
        rw [← hH4]
        have hk4 : ∀ j, j ≠ p → H4 j = H3 j := fun j hj => by rw [hH4, upd_ne _ _ hj]
        have w4 : Wkr c f p A K role' H4 n3 st l false := w3.list (ot' := some b) (Nat.le_refl _) (fun _ _ => rfl) w3.lt (by rw [hH4, upd_same]; rfl) (by
          have h1 : YtcdafogfmijcpaaW.Ah.Own H4 3 cP (some b) (l ++ [q]) := hot3.mono fun i hi => by cases hi; exact hk4 b hbp
          have h2 := h1.take l.length
          rw [List.take_left' rfl] at h2
          exact h2) (fun i hi => by cases hi; exact hrb) (fun j _ h _ => hk4 j h)
        have kn4 : Kn S (st, l) := ⟨fun q' hq' => kn.kn q' (List.mem_append_left _ hq'), kn.wf, by simp only; omega⟩
        have hstep := step_ok w4 ok kn4 hx
        have hplain := M.stepW_ok (M.stpC_mono c f) inv hx
        iterate 10 (try (refine evS_sound (f := 1) ?_; simp [t0]))
        refine Stk.callS 1 hstep rfl rfl rfl (by simp) ?_
        rintro v H5 n5 ⟨rfl, hv5⟩
        have hfr : ∀ {H2 : Mem} {n2 : Nat} {st2 : StF} {todo2 : List Nat} {b2 : Bool}, WRes c f p A K role' H4 n3 H2 n2 st2 todo2 b2 → n ≤ n2 ∧ (∀ j, j < n → role j = none → H2 j = H j) ∧ ∃ role2, (∀ j, j < n → role2 j = role j) ∧ Wkr c f p A K role2 H2 n2 st2 todo2 b2 := fun h =>
          WRes.trans (by omega) (fun j hj hr => by rw [hk4 j (fun e => by rw [e, w.rp] at hr; cases hr), hk3 j hj hr]) hr3 h
        have hbad : ∀ {st2 : StF} {todo2 : List Nat}, WRes c f p A K role' H4 n3 H5 n5 st2 todo2 true → (¬ ∃ t, Sol f.Code.length S first (stpC c f) t) → ∀ t' : Nat → AV, t' 0 = .own p 0 → J 0 t' H5 n5 := fun h hno t' ht => by
          obtain ⟨g1, g2, role2, g3, g4⟩ := hfr h
          exact hJ2 _ _ _ _ ⟨role2, _, _, true, ht, g1, g2, g3, g4, .inr ⟨rfl, hno, rfl⟩⟩
        cases hs : stpC c f q x with
        | none =>
          rw [hs] at hv5 hplain
          simp only at hv5 hplain
          simp
          iterate 6 (try (refine evS_sound (f := 1) ?_; simp))
          exact ⟨0, by omega, hbad hv5 hplain _ (by simp [t0])⟩
        | some ol =>
          obtain ⟨o, tl⟩ := ol
          rw [hs] at hv5 hplain
          simp only at hv5 hplain
          cases hcs : comesW S o tl (st, l) with
          | none =>
            rw [hcs] at hv5 hplain
            simp only at hv5 hplain
            obtain ⟨st2, todo2, hv5⟩ := hv5
            simp
            iterate 6 (try (refine evS_sound (f := 1) ?_; simp))
            exact ⟨0, by omega, hbad hv5 hplain _ (by simp [t0])⟩
          | some s' =>
            rw [hcs] at hv5 hplain
            simp only at hv5 hplain
            obtain ⟨inv2, hlt2⟩ := hplain
            obtain ⟨g1, g2, role2, g3, g4⟩ := hfr hv5
            rw [hll] at hlt2
            simp
            iterate 6 (try (refine evS_sound (f := 1) ?_; simp))
            exact ⟨2 * mu S s'.1 + s'.2.length + 1, by omega, hJ2 _ _ _ _ ⟨role2, s'.1, s'.2, false, by simp [t0], g1, g2, g3, g4, .inl ⟨rfl, inv2, ⟨inv2.kn, inv2.wf, by show 2 * mu S s'.1 + s'.2.length ≤ 2 ^ 39; omega⟩, rfl⟩⟩⟩
    · subst hb
      simp [t0]
      iterate 12 (try (refine evS_sound (f := 2) ?_; simp [t0, hp3, partOf]))
      exact hend _ (.inr ⟨hno, st, todo, hn3, hk3, role', hr3, w3⟩)
end Go.Proofs.Ytcdafogfmijcpaa.Flo
