/-
  FlowTells, the plain law.
-/
import Derived.Test.YtcdafogfmijcpaaFtMC
import Derived.Test.YtcdafogfmijcpaaFtO
namespace Go.Proofs.Ytcdafogfmijcpaa.M
open Go.Proofs.YtcdafogfmijcpaaW.Ah Go.Proofs.Ytcdafogfmijcpaa
set_option linter.unusedVariables false
set_option linter.unusedSimpArgs false

theorem specs_get (c : api_Code) : ∀ (l : List api_Func) (out : List (List (List Bool))), specsP c l = some out → out.length = l.length ∧ ∀ (k : Nat) (f : api_Func), l[k]? = some f → ∃ st, specP c f = some st ∧ out[k]? = some (rowsOf st)
  | [], out, h => by
    rw [specsP] at h; cases h
    exact ⟨rfl, fun k f hk => by simp at hk⟩
  | x :: l, out, h => by
    rw [specsP] at h
    cases hs : specP c x with
    | none => rw [hs] at h; cases h
    | some st =>
      rw [hs] at h
      cases hl : specsP c l with
      | none => rw [hl] at h; cases h
      | some o2 =>
        rw [hl] at h
        simp only [Option.some.injEq] at h
        subst h
        obtain ⟨h1, h2⟩ := specs_get c l o2 hl
        refine ⟨by rw [List.length_cons, List.length_cons, h1], fun k f hk => ?_⟩
        cases k with
        | zero => simp only [List.getElem?_cons_zero, Option.some.injEq] at hk; subst hk; exact ⟨st, hs, rfl⟩
        | succ k => simp only [List.getElem?_cons_succ] at hk ⊢; exact h2 k f hk
theorem spec_least {c : api_Code} {f : api_Func} {st : StF} (h : specP c f = some st) : Least f.Code.length f.Slots.toNat (List.replicate f.Params.toNat true) (stpC c f) st := leastP_ok _ _ _ _ h
theorem rows_get {st : StF} {k : Nat} {z : List Bool} (h : (rowsOf st)[k]? = some z) : ∃ r, st[k]? = some r ∧ z = r.getD [] := by
  unfold rowsOf at h
  rw [List.getElem?_map] at h
  cases hr : st[k]? with
  | none => rw [hr] at h; cases h
  | some r => rw [hr] at h; cases h; exact ⟨r, rfl, rfl⟩

/-- How an answer is. -/
structure OkOut (out : List (List (List Bool))) : Prop where
  l1 : out.length ≤ 80
  l2 : ∀ y ∈ out, y.length ≤ 2 ^ 20
  l3 : ∀ y ∈ out, ∀ z ∈ y, z.length ≤ 8192
theorem fit_each {c : api_Code} (h : fitC c = true) {f : api_Func} (hf : f ∈ c.Funs) : fitFun f = true := by
  unfold fitC at h
  simp only [Bool.and_eq_true, List.all_eq_true] at h
  exact h.2.1.1 f hf
theorem fit_len {c : api_Code} (h : fitC c = true) : c.Funs.length ≤ 80 ∧ c.Texts.length ≤ 4096 ∧ c.Tables.length ≤ 65536 := by
  unfold fitC at h
  simp only [Bool.and_eq_true, decide_eq_true_eq] at h
  exact ⟨h.1.1.1, h.1.1.2, h.1.2⟩
structure FitF (f : api_Func) : Prop where
  p0 : 0 ≤ f.Params
  p6 : f.Params ≤ 6
  s0 : 0 ≤ f.Slots
  s1 : f.Slots ≤ 8192
  c1 : 1 ≤ f.Code.length
  c2 : f.Code.length ≤ 2 ^ 20
  fit : ∀ (q : Nat) (i : api_Inst), f.Code[q]? = some i → fitI i = true
theorem fit_f {f : api_Func} (h : fitFun f = true) : FitF f := by
  unfold fitFun at h
  simp only [Bool.and_eq_true, decide_eq_true_eq, List.all_eq_true] at h
  obtain ⟨h1, ⟨⟨⟨h2, h3⟩, h4, h5⟩, h6, h7⟩, h8⟩ := h
  exact ⟨h2, h3, h4, h5, h6, by omega, fun q i hq => h8 i (List.mem_of_getElem? hq)⟩
theorem okOut {c : api_Code} (hft : fitC c = true) {out : List (List (List Bool))} (h : specsP c c.Funs = some out) : OkOut out := by
  obtain ⟨h1, h2⟩ := specs_get c _ _ h
  have h3 := fit_len hft
  have key : ∀ y ∈ out, ∃ f ∈ c.Funs, ∃ st, specP c f = some st ∧ y = rowsOf st := fun y hy => by
    obtain ⟨k, hk, he⟩ := List.mem_iff_getElem.1 hy
    obtain ⟨st, g1, g2⟩ := h2 k c.Funs[k] (List.getElem?_eq_getElem (by omega))
    rw [List.getElem?_eq_getElem hk, he] at g2
    exact ⟨_, List.getElem_mem _, st, g1, by simpa using g2⟩
  refine ⟨by omega, fun y hy => ?_, fun y hy z hz => ?_⟩
  · obtain ⟨f, hf, st, hs, rfl⟩ := key y hy
    have hl := (spec_least hs).1.len
    have := (fit_f (fit_each hft hf)).c2
    unfold rowsOf
    rw [List.length_map]; omega
  · obtain ⟨f, hf, st, hs, rfl⟩ := key y hy
    have hl := (spec_least hs).1.wf
    have := (fit_f (fit_each hft hf)).s1
    obtain ⟨k, hk⟩ := List.mem_iff_getElem?.1 hz
    obtain ⟨r, g1, rfl⟩ := rows_get hk
    cases r with
    | none => exact Nat.zero_le _
    | some x => have := hl k x g1; simp only [Option.getD_some]; omega
theorem flow_some {c : api_Code} (hs : smallC c = true) : ∃ r, flowP c = some r ∧ ((r = ([], 19) ∧ fitC c = false) ∨ (fitC c = true ∧ ((r = ([], 24) ∧ specsP c c.Funs = none) ∨ ∃ out, r = (out, 0) ∧ specsP c c.Funs = some out))) := by
  unfold flowP
  rw [if_pos hs]
  refine ⟨_, rfl, ?_⟩
  cases hf : fitC c with
  | false => exact .inl ⟨rfl, rfl⟩
  | true =>
    rw [if_pos rfl]
    refine .inr ⟨rfl, ?_⟩
    cases hsp : specsP c c.Funs with
    | none => exact .inl ⟨rfl, rfl⟩
    | some out => exact .inr ⟨out, rfl, rfl⟩
theorem flow_out {c : api_Code} {r : List (List (List Bool)) × Int} (h : flowP c = some r) : OkOut r.1 := by
  unfold flowP at h
  split at h
  · cases h
    split
    · rename_i hf
      cases hsp : specsP c c.Funs with
      | none => exact ⟨by simp, by simp, by simp⟩
      | some out => exact okOut hf hsp
    · exact ⟨by simp, by simp, by simp⟩
  · cases h
theorem small_w {c : api_Code} (w : W26 c) : smallC c = true := by
  obtain ⟨w1, w2, w3⟩ := w
  have hr : reachBytes ≤ 2 ^ 47 := by decide
  unfold smallC
  simp only [Bool.and_eq_true, decide_eq_true_eq, List.all_eq_true]
  exact ⟨⟨⟨⟨Nat.le_trans w1.1 hr, fun f hf => Nat.le_trans (w1.2 f hf).2.2.2.1 hr⟩, Nat.le_trans w2.1 hr⟩, Nat.le_trans w3.1 hr⟩, fun t ht => Nat.le_trans (w3.2 t ht).1 hr⟩

/-! The helpers. -/
def hgtG (a : List (List Bool)) (v : Int) : Nat → Int := fun q => (a.drop q).foldl (fun v x => if v < (x.length : Int) then (x.length : Int) else v) v
theorem height_L0 (F : Nat) (a : List (List Bool)) (hl : a.length ≤ 2 ^ 60) : ∀ (m q : Nat) (v : Int), q ≤ a.length → a.length + 1 ≤ m + q → flow_Height_L0 F a m v q = some (hgtG a v q)
  | 0, q, v, h1, h2 => by omega
  | m + 1, q, v, h1, h2 => by
    rw [flow_Height_L0]
    by_cases h : q < a.length
    · rw [decide_eq_true (by omega), cond_true, idx_lt h, Option.bind_some, wrap_succ q (by omega), height_L0 F a hl m (q + 1) _ h (by omega)]
      unfold hgtG
      rw [List.drop_eq_getElem_cons h, List.foldl_cons]
    · rw [decide_eq_false (by omega), cond_false]
      unfold hgtG
      rw [List.drop_of_length_le (by omega)]; rfl
def hgt (a : List (List Bool)) : Int := hgtG a 0 0
theorem height_M {F : Nat} {a : List (List Bool)} (hl : a.length ≤ 2 ^ 40) (hF : 2 ^ 47 + 1 ≤ F) : flow_Height F a = some (hgt a) := by
  unfold flow_Height
  exact height_L0 F a (by omega) F 0 0 (by omega) (by omega)
theorem hgt_le {a : List (List Bool)} {S : Int} (hS : 0 ≤ S) (h : ∀ z ∈ a, (z.length : Int) ≤ S) : hgt a ≤ S := by
  unfold hgt hgtG
  rw [List.drop_zero]
  have : ∀ (l : List (List Bool)) (v : Int), v ≤ S → (∀ z ∈ l, (z.length : Int) ≤ S) → l.foldl (fun v x => if v < (x.length : Int) then (x.length : Int) else v) v ≤ S := by
    intro l
    induction l with
    | nil => exact fun v hv _ => hv
    | cons x l ih =>
      intro v hv hl
      rw [List.foldl_cons]
      refine ih _ ?_ fun z hz => hl z (by simp [hz])
      split
      · exact hl x (by simp)
      · exact hv
  exact this a 0 hS h

/-! Light answers. -/
theorem light_L2 (F : Nat) (c : api_Code) (a1 : Int) (hl : c.Tables.length ≤ 2 ^ 47) : ∀ (m q : Nat) (v : Int), q ≤ c.Tables.length → c.Tables.length + 1 ≤ m + q → ∃ b, R20_Light_L2 F c a1 m v q = some b
  | 0, q, v, h1, h2 => by omega
  | m + 1, q, v, h1, h2 => by
    rw [R20_Light_L2]
    by_cases h : q < c.Tables.length ∧ v ≤ a1
    · rw [decide_eq_true (by omega), decide_eq_true h.2, Bool.true_and, cond_true, idx_lt h.1, Option.bind_some, wrap_succ q (by omega)]
      exact light_L2 F c a1 hl m (q + 1) _ h.1 (by omega)
    · have : (decide ((q : Int) < (c.Tables.length : Int)) && decide (v ≤ a1)) = false := by
        rw [Bool.eq_false_iff]; intro hb; simp only [Bool.and_eq_true, decide_eq_true_eq] at hb; exact h ⟨by omega, hb.2⟩
      rw [this, cond_false]
      exact ⟨_, rfl⟩
theorem light_L1 (F : Nat) (c : api_Code) (a1 : Int) (K : Int → Option Bool) (hK : ∀ v, ∃ b, K v = some b) (hl : c.Texts.length ≤ 2 ^ 47) : ∀ (m q : Nat) (v : Int), q ≤ c.Texts.length → c.Texts.length + 1 ≤ m + q → ∃ b, R20_Light_L1 F c a1 K m v q = some b
  | 0, q, v, h1, h2 => by omega
  | m + 1, q, v, h1, h2 => by
    rw [R20_Light_L1]
    by_cases h : q < c.Texts.length ∧ v ≤ a1
    · rw [decide_eq_true (by omega), decide_eq_true h.2, Bool.true_and, cond_true, idx_lt h.1, Option.bind_some, wrap_succ q (by omega)]
      exact light_L1 F c a1 K hK hl m (q + 1) _ h.1 (by omega)
    · have : (decide ((q : Int) < (c.Texts.length : Int)) && decide (v ≤ a1)) = false := by
        rw [Bool.eq_false_iff]; intro hb; simp only [Bool.and_eq_true, decide_eq_true_eq] at hb; exact h ⟨by omega, hb.2⟩
      rw [this, cond_false]
      exact hK v
theorem light_L0 (F : Nat) (c : api_Code) (a1 : Int) (K : Int → Option Bool) (hK : ∀ v, ∃ b, K v = some b) (hl : c.Funs.length ≤ 2 ^ 47) : ∀ (m q : Nat) (v : Int), q ≤ c.Funs.length → c.Funs.length + 1 ≤ m + q → ∃ b, R20_Light_L0 F c a1 K m v q = some b
  | 0, q, v, h1, h2 => by omega
  | m + 1, q, v, h1, h2 => by
    rw [R20_Light_L0]
    by_cases h : q < c.Funs.length ∧ v ≤ a1
    · rw [decide_eq_true (by omega), decide_eq_true h.2, Bool.true_and, cond_true, idx_lt h.1, Option.bind_some, wrap_succ q (by omega)]
      exact light_L0 F c a1 K hK hl m (q + 1) _ h.1 (by omega)
    · have : (decide ((q : Int) < (c.Funs.length : Int)) && decide (v ≤ a1)) = false := by
        rw [Bool.eq_false_iff]; intro hb; simp only [Bool.and_eq_true, decide_eq_true_eq] at hb; exact h ⟨by omega, hb.2⟩
      rw [this, cond_false]
      exact hK v
theorem light_some {F : Nat} (hF : 2 ^ 47 + 1 ≤ F) {c : api_Code} (hs : Small c) (a1 : Int) : ∃ b, R20_Light F c a1 = some b := by
  have hf := hs.f
  have hx := hs.x
  have ht := hs.t
  simp only [R20_Light, joinM]
  exact light_L0 F c a1 _ (fun v => light_L1 F c a1 _ (fun w => light_L2 F c a1 ht F 0 w (by omega) (by omega)) hx F 0 v (by omega) (by omega)) hf F 0 0 (by omega) (by omega)
end Go.Proofs.Ytcdafogfmijcpaa.M
namespace Go.Proofs.Ytcdafogfmijcpaa.M
open Go.Proofs.YtcdafogfmijcpaaW.Ah Go.Proofs.Ytcdafogfmijcpaa
set_option linter.unusedVariables false
set_option linter.unusedSimpArgs false

theorem bools_refl (F : Nat) (x : List Bool) (hl : x.length ≤ 2 ^ 40) : ∀ (m q : Nat), q ≤ x.length → x.length + 1 ≤ m + q → R21_Bools_L0 F x x m q = some true
  | 0, q, h1, h2 => by omega
  | m + 1, q, h1, h2 => by
    rw [R21_Bools_L0]
    by_cases h : q < x.length
    · rw [decide_eq_true (by omega), cond_true, idx_lt h, Option.bind_some, Option.bind_some, wrap_succ q (by omega), bools_refl F x hl m (q + 1) h (by omega)]
      simp
    · rw [decide_eq_false (by omega), cond_false]
theorem same_L1 (F : Nat) (a : List (List (List Bool))) {v : Nat} (hv : v < a.length) (K : Unit → Option Bool) (hF : 2 ^ 47 + 1 ≤ F) (hl : (a[v]).length ≤ 2 ^ 40) (hz : ∀ z ∈ a[v], z.length ≤ 2 ^ 40) : ∀ (m q : Nat), q ≤ (a[v]).length → (a[v]).length + 1 ≤ m + q → R21_Same_L1 F a a v K m q = K ()
  | 0, q, h1, h2 => by omega
  | m + 1, q, h1, h2 => by
    rw [R21_Same_L1, idx_lt hv, Option.bind_some]
    by_cases h : q < (a[v]).length
    · have hb : R21_Bools F (a[v])[q] (a[v])[q] = some true := by
        unfold R21_Bools
        rw [bne_self_eq_false, cond_false]
        exact bools_refl F _ (hz _ (List.getElem_mem h)) F 0 (by omega) (by have := hz _ (List.getElem_mem h); omega)
      rw [decide_eq_true (by omega), cond_true, Option.bind_some, idx_lt h, Option.bind_some, Option.bind_some, idx_lt h, Option.bind_some, hb, Option.bind_some, Bool.not_true, cond_false, wrap_succ q (by omega), same_L1 F a hv K hF hl hz m (q + 1) h (by omega)]
    · rw [decide_eq_false (by omega), cond_false]
theorem same_L0 (F : Nat) (a : List (List (List Bool))) (hF : 2 ^ 47 + 1 ≤ F) (hl : a.length ≤ 2 ^ 40) (hy : ∀ y ∈ a, y.length ≤ 2 ^ 40 ∧ ∀ z ∈ y, z.length ≤ 2 ^ 40) : ∀ (m q : Nat), q ≤ a.length → a.length + 1 ≤ m + q → R21_Same_L0 F a a m q = some true
  | 0, q, h1, h2 => by omega
  | m + 1, q, h1, h2 => by
    rw [R21_Same_L0]
    by_cases h : q < a.length
    · obtain ⟨g1, g2⟩ := hy _ (List.getElem_mem h)
      simp only [joinM]
      rw [decide_eq_true (by omega), cond_true, idx_lt h, Option.bind_some, Option.bind_some, bne_self_eq_false, cond_false]
      rw [show (0 : Int) = ((0 : Nat) : Int) from rfl, same_L1 F a h _ hF g1 g2 F 0 (by omega) (by omega), wrap_succ q (by omega), same_L0 F a hF hl hy m (q + 1) h (by omega)]
    · rw [decide_eq_false (by omega), cond_false]
theorem same_refl {F : Nat} (hF : 2 ^ 47 + 1 ≤ F) {a : List (List (List Bool))} (h : OkOut a) : R21_Same F a a = some true := by
  unfold R21_Same
  rw [bne_self_eq_false, cond_false]
  have h1 := h.l1
  exact same_L0 F a hF (by omega) (fun y hy => ⟨by have := h.l2 y hy; omega, fun z hz => by have := h.l3 y hy z hz; omega⟩) F 0 (by omega) (by omega)

end Go.Proofs.Ytcdafogfmijcpaa.M
namespace Go.Proofs.Ytcdafogfmijcpaa.M
open Go.Proofs.YtcdafogfmijcpaaW.Ah Go.Proofs.Ytcdafogfmijcpaa
set_option linter.unusedVariables false
set_option linter.unusedSimpArgs false

theorem height_eq (F : Nat) (a : List (List Bool)) : ∀ (m : Nat) (v w : Int), R21_Height_L0 F a m v w = flow_Height_L0 F a m v w
  | 0, _, _ => rfl
  | m + 1, v, w => by simp only [R21_Height_L0, flow_Height_L0, height_eq F a m]
theorem height21_M {F : Nat} {a : List (List Bool)} (hl : a.length ≤ 2 ^ 40) (hF : 2 ^ 47 + 1 ≤ F) : R21_Height F a = some (hgt a) := by
  unfold R21_Height
  rw [height_eq]
  exact height_L0 F a (by omega) F 0 0 (by omega) (by omega)
end Go.Proofs.Ytcdafogfmijcpaa.M
namespace Go.Proofs.Ytcdafogfmijcpaa.M
open Go.Proofs.YtcdafogfmijcpaaW.Ah Go.Proofs.Ytcdafogfmijcpaa
set_option linter.unusedVariables false
set_option linter.unusedSimpArgs false
set_option maxRecDepth 8000

def fa : api_Func := ⟨⟨#[]⟩, 1, 2, [⟨2, 0, 0, 0⟩, ⟨7, 0, 0, 0⟩]⟩
def ca : api_Code := ⟨[fa], [], []⟩
def fb : api_Func := ⟨⟨#[]⟩, 0, 2, [⟨7, 0, 0, 0⟩]⟩
def cb : api_Code := ⟨[fb], [], []⟩
theorem fit_ca : fitC ca = true := by decide
theorem fit_cb : fitC cb = true := by decide
theorem small_ca : smallC ca = true := by decide
theorem small_cb : smallC cb = true := by decide
theorem stp_a0 : stpC ca fa 0 [true] = some ([true, true], [1]) := by decide
theorem stp_a1 : stpC ca fa 1 [true, true] = some ([true], []) := by decide
theorem stp_b0 : stpC cb fb 0 [] = none := by decide
theorem le_trues : ∀ {x y : Row}, Le x y → (∀ b ∈ x, b = true) → y = x := by
  intro x y h hx
  refine (List.ext_getElem? fun k => ?_)
  by_cases hk : k < x.length
  · have h1 : x[k]? = some true := by rw [List.getElem?_eq_getElem hk, hx _ (List.getElem_mem hk)]
    rw [h1, h.2 k h1]
  · rw [List.getElem?_eq_none (by have := h.1; omega), List.getElem?_eq_none (by omega)]
theorem spec_a : specP ca fa = some [some [true], some [true, true]] := by
  refine leastP_some _ _ _ _ ⟨⟨rfl, ?_, ⟨[true], rfl, by decide, Le.rfl' _⟩, ?_⟩, ?_⟩
  · intro q x hx
    match q with
    | 0 => cases hx; decide
    | 1 => cases hx; decide
    | q + 2 => simp at hx
  · intro q x hx
    match q with
    | 0 => cases hx; exact ⟨_, _, stp_a0, fun to ht => by simp only [List.mem_singleton] at ht; subst ht; exact ⟨[true, true], rfl, by decide, Le.rfl' _⟩⟩
    | 1 => cases hx; exact ⟨_, _, stp_a1, fun to ht => by cases ht⟩
    | q + 2 => simp at hx
  · intro t ht
    refine ⟨by rw [ht.len]; rfl, ?_⟩
    obtain ⟨y, hy, _, hle⟩ := ht.ent
    have e0 : y = [true] := le_trues hle (by decide)
    subst e0
    obtain ⟨o, l, hs, hl⟩ := ht.cls 0 _ hy
    rw [stp_a0] at hs
    cases hs
    obtain ⟨y1, hy1, _, hle1⟩ := hl 1 (by simp)
    intro q x hx
    match q with
    | 0 => cases hx; exact ⟨_, hy, Le.rfl' _⟩
    | 1 => cases hx; exact ⟨_, hy1, hle1⟩
    | q + 2 => simp at hx
theorem spec_b : specP cb fb = none := by
  refine leastP_none _ _ _ _ ?_
  rintro ⟨t, ht⟩
  obtain ⟨y, hy, _, hle⟩ := ht.ent
  have e0 : y = [] := le_trues hle (by intro b hb; simp [fb] at hb)
  subst e0
  obtain ⟨o, l, hs, hl⟩ := ht.cls 0 _ hy
  rw [stp_b0] at hs
  cases hs
theorem flow_a : flowP ca = some ([[[true], [true, true]]], 0) := by
  unfold flowP
  rw [if_pos small_ca, if_pos fit_ca]
  have : specsP ca ca.Funs = some [[[true], [true, true]]] := by
    show specsP ca [fa] = _
    rw [specsP, spec_a, specsP]; rfl
  rw [this]
theorem flow_b : flowP cb = some ([], 24) := by
  unfold flowP
  rw [if_pos small_cb, if_pos fit_cb]
  have : specsP cb cb.Funs = none := by
    show specsP cb [fb] = _
    rw [specsP, spec_b]
  rw [this]
theorem awake_M {F : Nat} (hF : 2 ^ 47 + 1 ≤ F) : L21_awake F = some true := by
  have h1 : flow_Check F (api_Code.mk ([(api_Func.mk ⟨#[]⟩ 1 2 ([(api_Inst.mk 2 0 0 0), (api_Inst.mk 7 0 0 0)] : List api_Inst))] : List api_Func) [] []) = some ([[[true], [true, true]]], 0) := flow_a
  have h2 : flow_Check F (api_Code.mk ([(api_Func.mk ⟨#[]⟩ 0 2 ([(api_Inst.mk 7 0 0 0)] : List api_Inst))] : List api_Func) [] []) = some ([], 24) := flow_b
  have h3 : flow_Height F [[true], [true, true]] = some 2 := by
    rw [height_M (by decide) hF]; rfl
  simp only [L21_awake, joinM]
  rw [h1, h2, Option.bind_some, Option.bind_some]
  have i0 : idx ([[[true], [true, true]]] : List (List (List Bool))) 0 = some [[true], [true, true]] := rfl
  have i1 : idx ([[true], [true, true]] : List (List Bool)) 0 = some [true] := rfl
  have i2 : idx ([[true], [true, true]] : List (List Bool)) 1 = some [true, true] := rfl
  simp [i0, i1, i2, h3]
end Go.Proofs.Ytcdafogfmijcpaa.M
namespace Go.Proofs.Ytcdafogfmijcpaa.M
open Go.Proofs.YtcdafogfmijcpaaW.Ah Go.Proofs.Ytcdafogfmijcpaa
set_option linter.unusedVariables false
set_option linter.unusedSimpArgs false

theorem tells_L0 (F : Nat) (hF : 2 ^ 47 + 1 ≤ F) (r : List (List (List Bool)) × Int) (ho : OkOut r.1) : ∀ (m q : Nat), q ≤ r.1.length → r.1.length + 1 ≤ m + q → L21_FlowTells_L0 F r m q = some true
  | 0, q, h1, h2 => by omega
  | m + 1, q, h1, h2 => by
    have hl := ho.l1
    rw [L21_FlowTells_L0]
    by_cases h : q < r.1.length
    · have g := ho.l2 _ (List.getElem_mem h)
      rw [decide_eq_true (by omega), cond_true, idx_lt h, Option.bind_some, height_M (by omega) hF, Option.bind_some, height21_M (by omega) hF, Option.bind_some, bne_self_eq_false, cond_false, wrap_succ q (by omega)]
      exact tells_L0 F hF r ho m (q + 1) h (by omega)
    · rw [decide_eq_false (by omega), cond_false, awake_M hF]; rfl
theorem holds_FlowTells (c : api_Code) (w : W26 c) : ∃ F, L21_FlowTells F c = some true := by
  obtain ⟨F, hF⟩ : ∃ F, 2 ^ 47 + 1 ≤ F := ⟨_, Nat.le_refl _⟩
  refine ⟨F, ?_⟩
  have hsm := small_w w
  have hs := small_of hsm
  obtain ⟨b, hb⟩ := light_some hF hs 2000
  obtain ⟨r, hr, _⟩ := flow_some hsm
  have ho := flow_out hr
  have e1 : flow_Check F c = some r := hr
  have e2 : R21_Check F c = some r := hr
  have hl := ho.l1
  unfold L21_FlowTells
  rw [hb, Option.bind_some]
  cases b with
  | false => rw [Bool.not_false, cond_true, awake_M hF]; rfl
  | true =>
    rw [Bool.not_true, cond_false, e1, Option.bind_some, e2, Option.bind_some, same_refl hF ho, Option.bind_some, bne_self_eq_false]
    exact tells_L0 F hF r ho F 0 (by omega) (by omega)
end Go.Proofs.Ytcdafogfmijcpaa.M
