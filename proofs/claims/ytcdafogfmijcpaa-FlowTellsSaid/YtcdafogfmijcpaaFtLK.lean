/-
  The codes that can be, as the reference asks it.
-/
import Derived.Test.YtcdafogfmijcpaaFtMC
import Derived.Test.YtcdafogfmijcpaaFtMD
import Derived.Test.YtcdafogfmijcpaaFtWJ
import Derived.Test.YtcdafogfmijcpaaFtME
import Derived.Test.YtcdafogfmijcpaaFtW2
namespace Go.Proofs.Ytcdafogfmijcpaa.M
open Go.Proofs.YtcdafogfmijcpaaW.Ah Go.Proofs.Ytcdafogfmijcpaa
set_option linter.unusedVariables false
set_option linter.unusedSimpArgs false

theorem ltOne (k : Nat) : decide ((k : Int) < 1) = !decide (1 ≤ k) := by
  by_cases h : 1 ≤ k
  · rw [decide_eq_true h, decide_eq_false (by omega)]; rfl
  · rw [decide_eq_false h, decide_eq_true (by omega)]; rfl
theorem fit20_L1 (F : Nat) (f : api_Func) (K : Unit → Option Bool) (b : Bool) (hK : K () = some b) (hl : f.Code.length ≤ 2 ^ 47) : ∀ (m q : Nat), q ≤ f.Code.length → f.Code.length + 1 ≤ m + q → R20_Fit_L1 F f K m q = some ((f.Code.drop q).all fitI && b)
  | 0, q, h1, h2 => by omega
  | m + 1, q, h1, h2 => by
    rw [R20_Fit_L1]
    by_cases h : q < f.Code.length
    · rw [decide_eq_true (by omega), cond_true, idx_lt h, Option.bind_some, fit19_M, Option.bind_some, List.drop_eq_getElem_cons h, List.all_cons]
      cases fitI f.Code[q] with
      | false => rfl
      | true =>
        rw [Bool.not_true, cond_false, wrap_succ q (by omega), Bool.true_and]
        exact fit20_L1 F f K b hK hl m (q + 1) h (by omega)
    · rw [decide_eq_false (by omega), cond_false, hK, List.drop_of_length_le (by omega)]; rfl
theorem fit20_L0 (F : Nat) (c : api_Code) (K : Unit → Option Bool) (b : Bool) (hK : K () = some b) (hs : Small c) (hF : 2 ^ 47 + 1 ≤ F) : ∀ (m q : Nat), q ≤ c.Funs.length → c.Funs.length + 1 ≤ m + q → R20_Fit_L0 F c K m q = some ((c.Funs.drop q).all fitFun && b)
  | 0, q, h1, h2 => by omega
  | m + 1, q, h1, h2 => by
    have hfl := hs.f
    rw [R20_Fit_L0]
    by_cases h : q < c.Funs.length
    · have hfc := hs.fc _ (List.getElem_mem h)
      rw [decide_eq_true (by omega), cond_true, idx_lt h, Option.bind_some, List.drop_eq_getElem_cons h, List.all_cons]
      generalize c.Funs[q] = f at hfc
      have key := fit20_L1 F f (fun _ => R20_Fit_L0 F c K m ((q + 1 : Nat) : Int)) _ (fit20_L0 F c K b hK hs hF m (q + 1) h (by omega)) hfc F 0 (by omega) (by omega)
      simp only [joinM]
      rw [wrap_succ q (by omega)]
      rw [show ((0 : Nat) : Int) = 0 from rfl] at key
      rw [key, List.drop_zero]
      have e1 : decide (64 < (f.Name.size : Int)) = !decide (f.Name.size ≤ 64) := by rw [Bool.eq_iff_iff]; simp; omega
      have e2 : decide (f.Params < 0) = !decide (0 ≤ f.Params) := by rw [Bool.eq_iff_iff]; simp
      have e3 : decide (6 < f.Params) = !decide (f.Params ≤ 6) := by rw [Bool.eq_iff_iff]; simp
      have e4 : decide (f.Slots < 0) = !decide (0 ≤ f.Slots) := by rw [Bool.eq_iff_iff]; simp
      have e5 : decide (8192 < f.Slots) = !decide (f.Slots ≤ 8192) := by rw [Bool.eq_iff_iff]; simp
      have e6 : decide ((f.Code.length : Int) < 1) = !decide (1 ≤ f.Code.length) := ltOne _
      have e7 : decide (1048576 < (f.Code.length : Int)) = !decide (f.Code.length ≤ 1048576) := by rw [Bool.eq_iff_iff]; simp; omega
      rw [e1, e2, e3, e4, e5, e6, e7]
      unfold fitFun
      cases decide (f.Name.size ≤ 64) <;> cases decide (0 ≤ f.Params) <;> cases decide (f.Params ≤ 6) <;> cases decide (0 ≤ f.Slots) <;> cases decide (f.Slots ≤ 8192) <;> cases decide (1 ≤ f.Code.length) <;> cases decide (f.Code.length ≤ 1048576) <;> cases f.Code.all fitI <;> simp
    · rw [decide_eq_false (by omega), cond_false, hK, List.drop_of_length_le (by omega)]; rfl
theorem fit20_L2 (F : Nat) (c : api_Code) (K : Unit → Option Bool) (b : Bool) (hK : K () = some b) (hs : Small c) : ∀ (m q : Nat), q ≤ c.Texts.length → c.Texts.length + 1 ≤ m + q → R20_Fit_L2 F c K m q = some ((c.Texts.drop q).all (fun t => decide (t.length ≤ 64)) && b)
  | 0, q, h1, h2 => by omega
  | m + 1, q, h1, h2 => by
    have hfl := hs.x
    rw [R20_Fit_L2]
    by_cases h : q < c.Texts.length
    · rw [decide_eq_true (by omega), cond_true, idx_lt h, Option.bind_some, List.drop_eq_getElem_cons h, List.all_cons]
      have e1 : decide (64 < ((c.Texts[q]).length : Int)) = !decide ((c.Texts[q]).length ≤ 64) := by rw [Bool.eq_iff_iff]; simp; omega
      rw [e1]
      cases decide ((c.Texts[q]).length ≤ 64) with
      | false => rfl
      | true =>
        rw [Bool.not_true, cond_false, wrap_succ q (by omega), Bool.true_and]
        exact fit20_L2 F c K b hK hs m (q + 1) h (by omega)
    · rw [decide_eq_false (by omega), cond_false, hK, List.drop_of_length_le (by omega)]; rfl
theorem fit20_L4 (F : Nat) (c : api_Code) (K : Unit → Option Bool) (b : Bool) (hK : K () = some b) {v : Nat} (hv : v < c.Tables.length) (hl : (c.Tables[v]).length ≤ 2 ^ 47) : ∀ (m q : Nat), q ≤ (c.Tables[v]).length → (c.Tables[v]).length + 1 ≤ m + q → R20_Fit_L4 F c v K m q = some (((c.Tables[v]).drop q).all (fun n => decide (-1 ≤ n) && decide (n ≤ 1048575)) && b)
  | 0, q, h1, h2 => by omega
  | m + 1, q, h1, h2 => by
    rw [R20_Fit_L4]
    rw [idx_lt hv, Option.bind_some]
    by_cases h : q < (c.Tables[v]).length
    · simp only [joinM]
      rw [decide_eq_true (by omega), cond_true, Option.bind_some, idx_lt h, Option.bind_some, Option.bind_some, idx_lt h, Option.bind_some, List.drop_eq_getElem_cons h, List.all_cons]
      generalize (c.Tables[v])[q] = n
      have e1 : decide (n < -1) = !decide (-1 ≤ n) := by rw [Bool.eq_iff_iff]; simp
      have e2 : decide (1048576 ≤ n) = !decide (n ≤ 1048575) := by rw [Bool.eq_iff_iff]; simp; omega
      rw [e1, e2, wrap_succ q (by omega), fit20_L4 F c K b hK hv hl m (q + 1) h (by omega)]
      cases decide (-1 ≤ n) <;> cases decide (n ≤ 1048575) <;> simp
    · rw [decide_eq_false (by omega), cond_false, hK, List.drop_of_length_le (by omega)]; rfl
theorem fit20_L3 (F : Nat) (c : api_Code) (hs : Small c) (hF : 2 ^ 47 + 1 ≤ F) : ∀ (m q : Nat), q ≤ c.Tables.length → c.Tables.length + 1 ≤ m + q → R20_Fit_L3 F c m q = some ((c.Tables.drop q).all fitTab)
  | 0, q, h1, h2 => by omega
  | m + 1, q, h1, h2 => by
    have hfl := hs.t
    rw [R20_Fit_L3]
    by_cases h : q < c.Tables.length
    · have hfc := hs.tc _ (List.getElem_mem h)
      have key := fit20_L4 F c (fun _ => R20_Fit_L3 F c m ((q + 1 : Nat) : Int)) _ (fit20_L3 F c hs hF m (q + 1) h (by omega)) h hfc F 0 (by omega) (by omega)
      rw [show ((0 : Nat) : Int) = 0 from rfl] at key
      simp only [joinM]
      rw [decide_eq_true (by omega), cond_true, idx_lt h, Option.bind_some, Option.bind_some]
      rw [wrap_succ q (by omega), key, List.drop_zero, List.drop_eq_getElem_cons h, List.all_cons]
      generalize c.Tables[q] = t
      have e1 : decide ((t.length : Int) < 1) = !decide (1 ≤ t.length) := ltOne _
      have e2 : decide (16 < (t.length : Int)) = !decide (t.length ≤ 16) := by rw [Bool.eq_iff_iff]; simp; omega
      rw [e1, e2]
      unfold fitTab
      cases decide (1 ≤ t.length) <;> cases decide (t.length ≤ 16) <;> cases (t.all fun n => decide (-1 ≤ n) && decide (n ≤ 1048575)) <;> simp
    · rw [decide_eq_false (by omega), cond_false, List.drop_of_length_le (by omega)]; rfl
theorem fit20_M {F : Nat} (c : api_Code) (hF : 2 ^ 47 + 1 ≤ F) (hs : Small c) : R20_Fit F c = some (fitC c) := by
  have hf := hs.f
  have hx := hs.x
  have ht := hs.t
  have k2 := fit20_L2 F c (fun _ => R20_Fit_L3 F c F ((0 : Nat) : Int)) _ (fit20_L3 F c hs hF F 0 (by omega) (by omega)) hs F 0 (by omega) (by omega)
  have k0 := fit20_L0 F c (fun _ => R20_Fit_L2 F c (fun _ => R20_Fit_L3 F c F ((0 : Nat) : Int)) F ((0 : Nat) : Int)) _ k2 hs hF F 0 (by omega) (by omega)
  rw [show ((0 : Nat) : Int) = 0 from rfl] at k0
  simp only [R20_Fit, joinM]
  rw [k0]
  simp only [List.drop_zero]
  have e1 : decide (80 < (c.Funs.length : Int)) = !decide (c.Funs.length ≤ 80) := by rw [Bool.eq_iff_iff]; simp; omega
  have e2 : decide (4096 < (c.Texts.length : Int)) = !decide (c.Texts.length ≤ 4096) := by rw [Bool.eq_iff_iff]; simp; omega
  have e3 : decide (65536 < (c.Tables.length : Int)) = !decide (c.Tables.length ≤ 65536) := by rw [Bool.eq_iff_iff]; simp; omega
  rw [e1, e2, e3]
  unfold fitC
  cases decide (c.Funs.length ≤ 80) <;> cases decide (c.Texts.length ≤ 4096) <;> cases decide (c.Tables.length ≤ 65536) <;> cases c.Funs.all fitFun <;> cases (c.Texts.all fun t => decide (t.length ≤ 64)) <;> cases c.Tables.all fitTab <;> rfl
end Go.Proofs.Ytcdafogfmijcpaa.M
namespace Go.Proofs.Ytcdafogfmijcpaa.Flo
open Go.Proofs.YtcdafogfmijcpaaW.Ah
open M (api_Code api_Func api_Inst c3 c4 c9 c22 c26 c29 c36 c41 c42 c44 c47 c51 StF fitC flowP specP specsP rowsOf stpC)
set_option maxRecDepth 8000
set_option linter.unusedVariables false
set_option linter.unusedSimpArgs false
attribute [local simp] T.t2 T.t3 T.t4 T.t9 T.t22 T.t23 T.t24 T.t26 T.t29 T.t36 T.t39 T.t41 T.t42 T.t44 T.t47 T.t73 T.t75 Op.maxDepth List.range List.range.loop
attribute [-simp] appendAV

theorem R21_Check_run (c : api_Code) (r : List (List (List Bool)) × Int) (h : flowP c = some r) : RunF Try.prog T.T 9 [.agg (M.c26 c)] (.tup [.ssl (encs c36 r.1) r.1.length false, .sc (.int .i64 r.2)]) := by
  unfold M.flowP at h
  split at h
  case isFalse => cases h
  rename_i hsm
  have hs := M.small_of hsm
  have hfit := M.ok_R20_Fit (2 ^ 47 + 1) c (fitC c) (M.fit20_M c (Nat.le_refl _) hs)
  have hc26 : c26 c = [.ssl (encs c41 c.Funs) c.Funs.length false, .ssl (encs c51 c.Texts) c.Texts.length false, .ssl (encs c47 c.Tables) c.Tables.length false] := rfl
  rw [hc26] at hfit ⊢
  refine RunF.z Try.func9 rfl rfl rfl rfl rfl fun C hr => ?_
  iterate 6 (try (refine evS_sound (f := 1) ?_; simp [partOf]))
  iterate 6 (try (refine evS_sound (f := 1) ?_; simp [partOf]))
  refine Stk.callF 2 hfit rfl rfl rfl (by simp) (by simp [freeL, free, freeL_encs M.fr41, freeL_encs M.fr51, freeL_encs M.fr47]) rfl ?_
  by_cases hft : fitC c = true
  case neg =>
    rw [if_neg hft] at h
    cases h
    have hff : fitC c = false := by simpa using hft
    rw [hff]
    simp
    iterate 16 (try (refine evS_sound (f := 1) ?_; simp))
    exact (hr _ _ _ (.tup [.sc (.slice none 0 0), I 19]) [] (by simp) (.inr (.inr (.tup (.cons .nilS (.free rfl)))))).1
  rw [if_pos hft] at h
  have hfl := fit_funs hft
  rw [hft]
  simp
  iterate 24 (try (refine evS_sound (f := 1) ?_; simp [partOf]))
  refine Stk.loop 1 (fun μ t H n => ∃ (k : Nat) (o cc : Option Nat) (outs : List (List (List Bool))), k ≤ c.Funs.length ∧ μ = c.Funs.length - k ∧ t 1 = .own 0 0 ∧ t 4 = slc o outs.length cc ∧ t 5 = I k ∧ 1 ≤ n ∧
    H 0 = some (.cells [.ssl (encs c41 c.Funs) c.Funs.length false, .ssl (encs c51 c.Texts) c.Texts.length false, .ssl (encs c47 c.Tables) c.Tables.length false] 26) ∧ OwnC H 36 1 c36 o cc outs ∧ (∀ i, o = some i → 1 ≤ i ∧ i < n) ∧ specsP c (c.Funs.take k) = some outs ∧ outs.length = k) c.Funs.length
    ⟨0, none, none, [], by omega, rfl, by simp, by simp, by simp, Nat.le_refl _, by simp, rfl, fun i hi => (by cases hi), by rfl, rfl⟩ ?_
  rintro J hJ μ t H n ⟨k, o, cc, outs, hk, rfl, t1, t4, t5, hn1, h0, hO, hof, hsp, hol⟩
  by_cases hlt : k < c.Funs.length
  · have hlti : (k : Int) < c.Funs.length := by omega
    have wk := wrap_succ k (by omega)
    obtain ⟨f, hf⟩ : ∃ f, c.Funs[k] = f := ⟨_, rfl⟩
    have hfm : f ∈ c.Funs := by rw [← hf]; exact List.getElem_mem hlt
    obtain ⟨okc, hp0, hp6⟩ := fit_okc hft hfm
    obtain ⟨P, hP⟩ := Int.eq_ofNat_of_zero_le hp0
    have hcl := okc.cl
    have hin : partOf T.T 41 (List.drop (k * 4) (encs c41 c.Funs)) 0 = some (.agg [.sc (.string f.Name), I f.Params, I f.Slots, .ssl (encs c44 f.Code) f.Code.length false]) := by
      have := part_agg (T := T.T) (e := c41) (z := 4) T.t41 rfl rfl c.Funs k hlt
      rw [this, hf]; rfl
    have hlook := look_ok (H0 := H) (n0 := n) okc hP (by omega)
    have hspec : specP c f = M.leastP f.Code.length f.Slots.toNat (List.replicate P true) (stpC c f) := by unfold M.specP; rw [hP, Int.toNat_natCast]
    iterate 16 (try (refine evS_sound (f := 1) ?_; simp [t1, t5, h0, hlti, hlt, partOf]))
    refine Stk.rgD [.rd [0], .rd [], .rd [0], .rd [], .rd [], .rd [], .mem [] n, .rd [], .rd [], .rd [], .rd [], .rd []] none (by kernel_rfl) (drawOk2_ren [0] (by simp) n [.rd [0], .rd [], .rd [0], .rd [], .rd [], .rd [], .mem [] 0, .rd [], .rd [], .rd [], .rd [], .rd []] rfl (by rfl)) rfl (by simp [below]; omega) rfl ?_
    have hp26 : partOf T.T 26 [.ssl (encs c41 c.Funs) c.Funs.length false, .ssl (encs c51 c.Texts) c.Texts.length false, .ssl (encs c47 c.Tables) c.Tables.length false] 0 = some (.agg [.ssl (encs c41 c.Funs) c.Funs.length false, .ssl (encs c51 c.Texts) c.Texts.length false, .ssl (encs c47 c.Tables) c.Tables.length false]) := by simp [partOf]
    have hp22 : partOf T.T 22 [.ssl (encs c41 c.Funs) c.Funs.length false, .ssl (encs c51 c.Texts) c.Texts.length false, .ssl (encs c47 c.Tables) c.Tables.length false] 0 = some (.ssl (encs c41 c.Funs) c.Funs.length false) := by simp [partOf]
    iterate 10 (try (refine evS_sound (f := 1) ?_; simp [t1, t5, h0, hlti, hlt, hp26, hp22, hin]))
    refine Stk.callSD 1 rfl (fun v H' n' hz => by obtain ⟨_, _, _, _, _, _, g⟩ := hz; exact fun j hj _ => g j hj) hlook rfl rfl rfl rfl (by simp) ?_
    rintro v H3 n3 ⟨st, ok3, rfl, hyes, hno, hn3, hk3⟩
    simp
    iterate 10 (try (refine evS_sound (f := 1) ?_; simp))
    cases ok3 with
    | false =>
      have hnone := M.leastP_none _ _ _ _ (hno rfl)
      rw [← hspec] at hnone
      rw [specs_none c c.Funs hfm hnone] at h
      cases h
      iterate 20 (try (refine evS_sound (f := 1) ?_; simp))
      exact (hr _ _ _ (.tup [.sc (.slice none 0 0), I 24]) [] (by simp) (.inr (.inr (.tup (.cons .nilS (.free rfl)))))).1
    | true =>
      have hsome := M.leastP_some _ _ _ _ (hyes rfl)
      rw [← hspec] at hsome
      obtain ⟨o', c', H5, n5, e5, o5, le5, f5, k5⟩ := moreO (n := n3) (hO.mono fun i hi => hk3 i (hof i hi).2) (fun i hi => by have := (hof i hi).2; omega) (by omega) (rowsOf st)
      have e5' : appendAV T.T (upd H3 n3 (some (Blk.cells [.ssl (encs c42 (rowsOf st)) (rowsOf st).length false] 36))) (n3 + 1) 29 (slc o outs.length cc) (.osl n3 0 1 (some 1)) = some (slc o' (outs ++ [rowsOf st]).length c', H5, n5) := e5
      iterate 30 (try (refine evS_sound (f := 1) ?_; simp [t4, t5, e5', wk, -List.length_append]))
      refine ⟨_, by omega, hJ _ _ _ _ ⟨k + 1, o', c', outs ++ [rowsOf st], hlt, rfl, by simp [t1], by simp, by simp, by omega, ?_, o5, fun i hi => ?_, ?_, by rw [List.length_append, hol]; rfl⟩⟩
      · rw [k5 0 (by omega) (fun e => by have := hof 0 e; omega), hk3 0 (by omega), h0]
      · have := f5 i hi
        refine ⟨?_, this.2⟩
        rcases this.1 with h | h
        · exact (hof i h).1
        · omega
      · rw [List.take_add_one, List.getElem?_eq_getElem hlt, hf]
        show specsP c (c.Funs.take k ++ [f]) = _
        rw [specs_snoc, hsp, hsome]
  · have hke : k = c.Funs.length := by omega
    subst hke
    rw [List.take_length] at hsp
    rw [hsp] at h
    cases h
    iterate 16 (try (refine evS_sound (f := 1) ?_; simp [t1, t5, h0, partOf]))
    iterate 16 (try (refine evS_sound (f := 1) ?_; simp [t4]))
    exact (hr _ _ _ (.tup [slc o outs.length cc, I 0]) o.toList (by simp [t4]) (.inr (.inr (.tup (.cons (view_ownC M.fr36 hO (fun i hi => by rw [hi]; simp)) (.free rfl)))))).1
end Go.Proofs.Ytcdafogfmijcpaa.Flo
