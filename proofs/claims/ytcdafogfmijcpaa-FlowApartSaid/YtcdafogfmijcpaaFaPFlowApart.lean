/-
  FlowApart, the plain law.
-/
import Derived.Test.YtcdafogfmijcpaaFaMC
import Derived.Test.YtcdafogfmijcpaaFaO
namespace Go.Proofs.Ytcdafogfmijcpaa.M
open Go.Proofs.YtcdafogfmijcpaaW.Ah Go.Proofs.Ytcdafogfmijcpaa
set_option linter.unusedVariables false
set_option linter.unusedSimpArgs false

theorem specs_get (c : api_Code) : ∀ (l : List api_Func) (out : List (List (List Bool))), specsP c l = some out → out.length = l.length ∧ ∀ (k : Nat) (f : api_Func), l[k]? = some f → ∃ st, specP c f = some st ∧ out[k]? = some (rowsOf st)
  | [], out, h => by
    rw [specsP] at h; cases h
    exact ⟨rfl, fun k f hk => by simp at hk⟩
  | x :: l, out, h => by
    rw [specsP] at h
    cases hs : specP c x with
    | none => rw [hs] at h; cases h
    | some st =>
      rw [hs] at h
      cases hl : specsP c l with
      | none => rw [hl] at h; cases h
      | some o2 =>
        rw [hl] at h
        simp only [Option.some.injEq] at h
        subst h
        obtain ⟨h1, h2⟩ := specs_get c l o2 hl
        refine ⟨by rw [List.length_cons, List.length_cons, h1], fun k f hk => ?_⟩
        cases k with
        | zero => simp only [List.getElem?_cons_zero, Option.some.injEq] at hk; subst hk; exact ⟨st, hs, rfl⟩
        | succ k => simp only [List.getElem?_cons_succ] at hk ⊢; exact h2 k f hk
theorem spec_least {c : api_Code} {f : api_Func} {st : StF} (h : specP c f = some st) : Least f.Code.length f.Slots.toNat (List.replicate f.Params.toNat true) (stpC c f) st := leastP_ok _ _ _ _ h
theorem rows_get {st : StF} {k : Nat} {z : List Bool} (h : (rowsOf st)[k]? = some z) : ∃ r, st[k]? = some r ∧ z = r.getD [] := by
  unfold rowsOf at h
  rw [List.getElem?_map] at h
  cases hr : st[k]? with
  | none => rw [hr] at h; cases h
  | some r => rw [hr] at h; cases h; exact ⟨r, rfl, rfl⟩

/-- How an answer is. -/
structure OkOut (out : List (List (List Bool))) : Prop where
  l1 : out.length ≤ 80
  l2 : ∀ y ∈ out, y.length ≤ 2 ^ 20
  l3 : ∀ y ∈ out, ∀ z ∈ y, z.length ≤ 8192
theorem fit_each {c : api_Code} (h : fitC c = true) {f : api_Func} (hf : f ∈ c.Funs) : fitFun f = true := by
  unfold fitC at h
  simp only [Bool.and_eq_true, List.all_eq_true] at h
  exact h.2.1.1 f hf
theorem fit_len {c : api_Code} (h : fitC c = true) : c.Funs.length ≤ 80 ∧ c.Texts.length ≤ 4096 ∧ c.Tables.length ≤ 65536 := by
  unfold fitC at h
  simp only [Bool.and_eq_true, decide_eq_true_eq] at h
  exact ⟨h.1.1.1, h.1.1.2, h.1.2⟩
structure FitF (f : api_Func) : Prop where
  p0 : 0 ≤ f.Params
  p6 : f.Params ≤ 6
  s0 : 0 ≤ f.Slots
  s1 : f.Slots ≤ 8192
  c1 : 1 ≤ f.Code.length
  c2 : f.Code.length ≤ 2 ^ 20
  fit : ∀ (q : Nat) (i : api_Inst), f.Code[q]? = some i → fitI i = true
theorem fit_f {f : api_Func} (h : fitFun f = true) : FitF f := by
  unfold fitFun at h
  simp only [Bool.and_eq_true, decide_eq_true_eq, List.all_eq_true] at h
  obtain ⟨h1, ⟨⟨⟨h2, h3⟩, h4, h5⟩, h6, h7⟩, h8⟩ := h
  exact ⟨h2, h3, h4, h5, h6, by omega, fun q i hq => h8 i (List.mem_of_getElem? hq)⟩
theorem okOut {c : api_Code} (hft : fitC c = true) {out : List (List (List Bool))} (h : specsP c c.Funs = some out) : OkOut out := by
  obtain ⟨h1, h2⟩ := specs_get c _ _ h
  have h3 := fit_len hft
  have key : ∀ y ∈ out, ∃ f ∈ c.Funs, ∃ st, specP c f = some st ∧ y = rowsOf st := fun y hy => by
    obtain ⟨k, hk, he⟩ := List.mem_iff_getElem.1 hy
    obtain ⟨st, g1, g2⟩ := h2 k c.Funs[k] (List.getElem?_eq_getElem (by omega))
    rw [List.getElem?_eq_getElem hk, he] at g2
    exact ⟨_, List.getElem_mem _, st, g1, by simpa using g2⟩
  refine ⟨by omega, fun y hy => ?_, fun y hy z hz => ?_⟩
  · obtain ⟨f, hf, st, hs, rfl⟩ := key y hy
    have hl := (spec_least hs).1.len
    have := (fit_f (fit_each hft hf)).c2
    unfold rowsOf
    rw [List.length_map]; omega
  · obtain ⟨f, hf, st, hs, rfl⟩ := key y hy
    have hl := (spec_least hs).1.wf
    have := (fit_f (fit_each hft hf)).s1
    obtain ⟨k, hk⟩ := List.mem_iff_getElem?.1 hz
    obtain ⟨r, g1, rfl⟩ := rows_get hk
    cases r with
    | none => exact Nat.zero_le _
    | some x => have := hl k x g1; simp only [Option.getD_some]; omega
theorem flow_some {c : api_Code} (hs : smallC c = true) : ∃ r, flowP c = some r ∧ ((r = ([], 19) ∧ fitC c = false) ∨ (fitC c = true ∧ ((r = ([], 24) ∧ specsP c c.Funs = none) ∨ ∃ out, r = (out, 0) ∧ specsP c c.Funs = some out))) := by
  unfold flowP
  rw [if_pos hs]
  refine ⟨_, rfl, ?_⟩
  cases hf : fitC c with
  | false => exact .inl ⟨rfl, rfl⟩
  | true =>
    rw [if_pos rfl]
    refine .inr ⟨rfl, ?_⟩
    cases hsp : specsP c c.Funs with
    | none => exact .inl ⟨rfl, rfl⟩
    | some out => exact .inr ⟨out, rfl, rfl⟩
theorem flow_out {c : api_Code} {r : List (List (List Bool)) × Int} (h : flowP c = some r) : OkOut r.1 := by
  unfold flowP at h
  split at h
  · cases h
    split
    · rename_i hf
      cases hsp : specsP c c.Funs with
      | none => exact ⟨by simp, by simp, by simp⟩
      | some out => exact okOut hf hsp
    · exact ⟨by simp, by simp, by simp⟩
  · cases h
theorem small_w {c : api_Code} (w : W26 c) : smallC c = true := by
  obtain ⟨w1, w2, w3⟩ := w
  have hr : reachBytes ≤ 2 ^ 47 := by decide
  unfold smallC
  simp only [Bool.and_eq_true, decide_eq_true_eq, List.all_eq_true]
  exact ⟨⟨⟨⟨Nat.le_trans w1.1 hr, fun f hf => Nat.le_trans (w1.2 f hf).2.2.2.1 hr⟩, Nat.le_trans w2.1 hr⟩, Nat.le_trans w3.1 hr⟩, fun t ht => Nat.le_trans (w3.2 t ht).1 hr⟩

/-! The helpers. -/
def hgtG (a : List (List Bool)) (v : Int) : Nat → Int := fun q => (a.drop q).foldl (fun v x => if v < (x.length : Int) then (x.length : Int) else v) v
theorem height_L0 (F : Nat) (a : List (List Bool)) (hl : a.length ≤ 2 ^ 60) : ∀ (m q : Nat) (v : Int), q ≤ a.length → a.length + 1 ≤ m + q → flow_Height_L0 F a m v q = some (hgtG a v q)
  | 0, q, v, h1, h2 => by omega
  | m + 1, q, v, h1, h2 => by
    rw [flow_Height_L0]
    by_cases h : q < a.length
    · rw [decide_eq_true (by omega), cond_true, idx_lt h, Option.bind_some, wrap_succ q (by omega), height_L0 F a hl m (q + 1) _ h (by omega)]
      unfold hgtG
      rw [List.drop_eq_getElem_cons h, List.foldl_cons]
    · rw [decide_eq_false (by omega), cond_false]
      unfold hgtG
      rw [List.drop_of_length_le (by omega)]; rfl
def hgt (a : List (List Bool)) : Int := hgtG a 0 0
theorem height_M {F : Nat} {a : List (List Bool)} (hl : a.length ≤ 2 ^ 40) (hF : 2 ^ 47 + 1 ≤ F) : flow_Height F a = some (hgt a) := by
  unfold flow_Height
  exact height_L0 F a (by omega) F 0 0 (by omega) (by omega)
theorem hgt_le {a : List (List Bool)} {S : Int} (hS : 0 ≤ S) (h : ∀ z ∈ a, (z.length : Int) ≤ S) : hgt a ≤ S := by
  unfold hgt hgtG
  rw [List.drop_zero]
  have : ∀ (l : List (List Bool)) (v : Int), v ≤ S → (∀ z ∈ l, (z.length : Int) ≤ S) → l.foldl (fun v x => if v < (x.length : Int) then (x.length : Int) else v) v ≤ S := by
    intro l
    induction l with
    | nil => exact fun v hv _ => hv
    | cons x l ih =>
      intro v hv hl
      rw [List.foldl_cons]
      refine ih _ ?_ fun z hz => hl z (by simp [hz])
      split
      · exact hl x (by simp)
      · exact hv
  exact this a 0 hS h

/-! Light answers. -/
theorem light_L2 (F : Nat) (c : api_Code) (a1 : Int) (hl : c.Tables.length ≤ 2 ^ 47) : ∀ (m q : Nat) (v : Int), q ≤ c.Tables.length → c.Tables.length + 1 ≤ m + q → ∃ b, R20_Light_L2 F c a1 m v q = some b
  | 0, q, v, h1, h2 => by omega
  | m + 1, q, v, h1, h2 => by
    rw [R20_Light_L2]
    by_cases h : q < c.Tables.length ∧ v ≤ a1
    · rw [decide_eq_true (by omega), decide_eq_true h.2, Bool.true_and, cond_true, idx_lt h.1, Option.bind_some, wrap_succ q (by omega)]
      exact light_L2 F c a1 hl m (q + 1) _ h.1 (by omega)
    · have : (decide ((q : Int) < (c.Tables.length : Int)) && decide (v ≤ a1)) = false := by
        rw [Bool.eq_false_iff]; intro hb; simp only [Bool.and_eq_true, decide_eq_true_eq] at hb; exact h ⟨by omega, hb.2⟩
      rw [this, cond_false]
      exact ⟨_, rfl⟩
theorem light_L1 (F : Nat) (c : api_Code) (a1 : Int) (K : Int → Option Bool) (hK : ∀ v, ∃ b, K v = some b) (hl : c.Texts.length ≤ 2 ^ 47) : ∀ (m q : Nat) (v : Int), q ≤ c.Texts.length → c.Texts.length + 1 ≤ m + q → ∃ b, R20_Light_L1 F c a1 K m v q = some b
  | 0, q, v, h1, h2 => by omega
  | m + 1, q, v, h1, h2 => by
    rw [R20_Light_L1]
    by_cases h : q < c.Texts.length ∧ v ≤ a1
    · rw [decide_eq_true (by omega), decide_eq_true h.2, Bool.true_and, cond_true, idx_lt h.1, Option.bind_some, wrap_succ q (by omega)]
      exact light_L1 F c a1 K hK hl m (q + 1) _ h.1 (by omega)
    · have : (decide ((q : Int) < (c.Texts.length : Int)) && decide (v ≤ a1)) = false := by
        rw [Bool.eq_false_iff]; intro hb; simp only [Bool.and_eq_true, decide_eq_true_eq] at hb; exact h ⟨by omega, hb.2⟩
      rw [this, cond_false]
      exact hK v
theorem light_L0 (F : Nat) (c : api_Code) (a1 : Int) (K : Int → Option Bool) (hK : ∀ v, ∃ b, K v = some b) (hl : c.Funs.length ≤ 2 ^ 47) : ∀ (m q : Nat) (v : Int), q ≤ c.Funs.length → c.Funs.length + 1 ≤ m + q → ∃ b, R20_Light_L0 F c a1 K m v q = some b
  | 0, q, v, h1, h2 => by omega
  | m + 1, q, v, h1, h2 => by
    rw [R20_Light_L0]
    by_cases h : q < c.Funs.length ∧ v ≤ a1
    · rw [decide_eq_true (by omega), decide_eq_true h.2, Bool.true_and, cond_true, idx_lt h.1, Option.bind_some, wrap_succ q (by omega)]
      exact light_L0 F c a1 K hK hl m (q + 1) _ h.1 (by omega)
    · have : (decide ((q : Int) < (c.Funs.length : Int)) && decide (v ≤ a1)) = false := by
        rw [Bool.eq_false_iff]; intro hb; simp only [Bool.and_eq_true, decide_eq_true_eq] at hb; exact h ⟨by omega, hb.2⟩
      rw [this, cond_false]
      exact hK v
theorem light_some {F : Nat} (hF : 2 ^ 47 + 1 ≤ F) {c : api_Code} (hs : Small c) (a1 : Int) : ∃ b, R20_Light F c a1 = some b := by
  have hf := hs.f
  have hx := hs.x
  have ht := hs.t
  simp only [R20_Light, joinM]
  exact light_L0 F c a1 _ (fun v => light_L1 F c a1 _ (fun w => light_L2 F c a1 ht F 0 w (by omega) (by omega)) hx F 0 v (by omega) (by omega)) hf F 0 0 (by omega) (by omega)
end Go.Proofs.Ytcdafogfmijcpaa.M
namespace Go.Proofs.Ytcdafogfmijcpaa.M
open Go.Proofs.YtcdafogfmijcpaaW.Ah Go.Proofs.Ytcdafogfmijcpaa
set_option linter.unusedVariables false
set_option linter.unusedSimpArgs false

theorem bools_refl (F : Nat) (x : List Bool) (hl : x.length ≤ 2 ^ 40) : ∀ (m q : Nat), q ≤ x.length → x.length + 1 ≤ m + q → R21_Bools_L0 F x x m q = some true
  | 0, q, h1, h2 => by omega
  | m + 1, q, h1, h2 => by
    rw [R21_Bools_L0]
    by_cases h : q < x.length
    · rw [decide_eq_true (by omega), cond_true, idx_lt h, Option.bind_some, Option.bind_some, wrap_succ q (by omega), bools_refl F x hl m (q + 1) h (by omega)]
      simp
    · rw [decide_eq_false (by omega), cond_false]
theorem same_L1 (F : Nat) (a : List (List (List Bool))) {v : Nat} (hv : v < a.length) (K : Unit → Option Bool) (hF : 2 ^ 47 + 1 ≤ F) (hl : (a[v]).length ≤ 2 ^ 40) (hz : ∀ z ∈ a[v], z.length ≤ 2 ^ 40) : ∀ (m q : Nat), q ≤ (a[v]).length → (a[v]).length + 1 ≤ m + q → R21_Same_L1 F a a v K m q = K ()
  | 0, q, h1, h2 => by omega
  | m + 1, q, h1, h2 => by
    rw [R21_Same_L1, idx_lt hv, Option.bind_some]
    by_cases h : q < (a[v]).length
    · have hb : R21_Bools F (a[v])[q] (a[v])[q] = some true := by
        unfold R21_Bools
        rw [bne_self_eq_false, cond_false]
        exact bools_refl F _ (hz _ (List.getElem_mem h)) F 0 (by omega) (by have := hz _ (List.getElem_mem h); omega)
      rw [decide_eq_true (by omega), cond_true, Option.bind_some, idx_lt h, Option.bind_some, Option.bind_some, idx_lt h, Option.bind_some, hb, Option.bind_some, Bool.not_true, cond_false, wrap_succ q (by omega), same_L1 F a hv K hF hl hz m (q + 1) h (by omega)]
    · rw [decide_eq_false (by omega), cond_false]
theorem same_L0 (F : Nat) (a : List (List (List Bool))) (hF : 2 ^ 47 + 1 ≤ F) (hl : a.length ≤ 2 ^ 40) (hy : ∀ y ∈ a, y.length ≤ 2 ^ 40 ∧ ∀ z ∈ y, z.length ≤ 2 ^ 40) : ∀ (m q : Nat), q ≤ a.length → a.length + 1 ≤ m + q → R21_Same_L0 F a a m q = some true
  | 0, q, h1, h2 => by omega
  | m + 1, q, h1, h2 => by
    rw [R21_Same_L0]
    by_cases h : q < a.length
    · obtain ⟨g1, g2⟩ := hy _ (List.getElem_mem h)
      simp only [joinM]
      rw [decide_eq_true (by omega), cond_true, idx_lt h, Option.bind_some, Option.bind_some, bne_self_eq_false, cond_false]
      rw [show (0 : Int) = ((0 : Nat) : Int) from rfl, same_L1 F a h _ hF g1 g2 F 0 (by omega) (by omega), wrap_succ q (by omega), same_L0 F a hF hl hy m (q + 1) h (by omega)]
    · rw [decide_eq_false (by omega), cond_false]
theorem same_refl {F : Nat} (hF : 2 ^ 47 + 1 ≤ F) {a : List (List (List Bool))} (h : OkOut a) : R21_Same F a a = some true := by
  unfold R21_Same
  rw [bne_self_eq_false, cond_false]
  have h1 := h.l1
  exact same_L0 F a hF (by omega) (fun y hy => ⟨by have := h.l2 y hy; omega, fun z hz => by have := h.l3 y hy z hz; omega⟩) F 0 (by omega) (by omega)

end Go.Proofs.Ytcdafogfmijcpaa.M
namespace Go.Proofs.Ytcdafogfmijcpaa.M
open Go.Proofs.YtcdafogfmijcpaaW.Ah Go.Proofs.Ytcdafogfmijcpaa
set_option linter.unusedVariables false
set_option linter.unusedSimpArgs false
set_option maxRecDepth 8000

def fa : api_Func := ⟨⟨#[]⟩, 1, 2, [⟨2, 0, 0, 0⟩, ⟨7, 0, 0, 0⟩]⟩
def ca : api_Code := ⟨[fa], [], []⟩
def fb : api_Func := ⟨⟨#[]⟩, 0, 2, [⟨7, 0, 0, 0⟩]⟩
def cb : api_Code := ⟨[fb], [], []⟩
theorem fit_ca : fitC ca = true := by decide
theorem fit_cb : fitC cb = true := by decide
theorem small_ca : smallC ca = true := by decide
theorem small_cb : smallC cb = true := by decide
theorem stp_a0 : stpC ca fa 0 [true] = some ([true, true], [1]) := by decide
theorem stp_a1 : stpC ca fa 1 [true, true] = some ([true], []) := by decide
theorem stp_b0 : stpC cb fb 0 [] = none := by decide
theorem le_trues : ∀ {x y : Row}, Le x y → (∀ b ∈ x, b = true) → y = x := by
  intro x y h hx
  refine (List.ext_getElem? fun k => ?_)
  by_cases hk : k < x.length
  · have h1 : x[k]? = some true := by rw [List.getElem?_eq_getElem hk, hx _ (List.getElem_mem hk)]
    rw [h1, h.2 k h1]
  · rw [List.getElem?_eq_none (by have := h.1; omega), List.getElem?_eq_none (by omega)]
theorem spec_a : specP ca fa = some [some [true], some [true, true]] := by
  refine leastP_some _ _ _ _ ⟨⟨rfl, ?_, ⟨[true], rfl, by decide, Le.rfl' _⟩, ?_⟩, ?_⟩
  · intro q x hx
    match q with
    | 0 => cases hx; decide
    | 1 => cases hx; decide
    | q + 2 => simp at hx
  · intro q x hx
    match q with
    | 0 => cases hx; exact ⟨_, _, stp_a0, fun to ht => by simp only [List.mem_singleton] at ht; subst ht; exact ⟨[true, true], rfl, by decide, Le.rfl' _⟩⟩
    | 1 => cases hx; exact ⟨_, _, stp_a1, fun to ht => by cases ht⟩
    | q + 2 => simp at hx
  · intro t ht
    refine ⟨by rw [ht.len]; rfl, ?_⟩
    obtain ⟨y, hy, _, hle⟩ := ht.ent
    have e0 : y = [true] := le_trues hle (by decide)
    subst e0
    obtain ⟨o, l, hs, hl⟩ := ht.cls 0 _ hy
    rw [stp_a0] at hs
    cases hs
    obtain ⟨y1, hy1, _, hle1⟩ := hl 1 (by simp)
    intro q x hx
    match q with
    | 0 => cases hx; exact ⟨_, hy, Le.rfl' _⟩
    | 1 => cases hx; exact ⟨_, hy1, hle1⟩
    | q + 2 => simp at hx
theorem spec_b : specP cb fb = none := by
  refine leastP_none _ _ _ _ ?_
  rintro ⟨t, ht⟩
  obtain ⟨y, hy, _, hle⟩ := ht.ent
  have e0 : y = [] := le_trues hle (by intro b hb; simp [fb] at hb)
  subst e0
  obtain ⟨o, l, hs, hl⟩ := ht.cls 0 _ hy
  rw [stp_b0] at hs
  cases hs
theorem flow_a : flowP ca = some ([[[true], [true, true]]], 0) := by
  unfold flowP
  rw [if_pos small_ca, if_pos fit_ca]
  have : specsP ca ca.Funs = some [[[true], [true, true]]] := by
    show specsP ca [fa] = _
    rw [specsP, spec_a, specsP]; rfl
  rw [this]
theorem flow_b : flowP cb = some ([], 24) := by
  unfold flowP
  rw [if_pos small_cb, if_pos fit_cb]
  have : specsP cb cb.Funs = none := by
    show specsP cb [fb] = _
    rw [specsP, spec_b]
  rw [this]
theorem awake_M {F : Nat} (hF : 2 ^ 47 + 1 ≤ F) : L21_awake F = some true := by
  have h1 : flow_Check F (api_Code.mk ([(api_Func.mk ⟨#[]⟩ 1 2 ([(api_Inst.mk 2 0 0 0), (api_Inst.mk 7 0 0 0)] : List api_Inst))] : List api_Func) [] []) = some ([[[true], [true, true]]], 0) := flow_a
  have h2 : flow_Check F (api_Code.mk ([(api_Func.mk ⟨#[]⟩ 0 2 ([(api_Inst.mk 7 0 0 0)] : List api_Inst))] : List api_Func) [] []) = some ([], 24) := flow_b
  have h3 : flow_Height F [[true], [true, true]] = some 2 := by
    rw [height_M (by decide) hF]; rfl
  simp only [L21_awake, joinM]
  rw [h1, h2, Option.bind_some, Option.bind_some]
  have i0 : idx ([[[true], [true, true]]] : List (List (List Bool))) 0 = some [[true], [true, true]] := rfl
  have i1 : idx ([[true], [true, true]] : List (List Bool)) 0 = some [true] := rfl
  have i2 : idx ([[true], [true, true]] : List (List Bool)) 1 = some [true, true] := rfl
  simp [i0, i1, i2, h3]
end Go.Proofs.Ytcdafogfmijcpaa.M
namespace Go.Proofs.Ytcdafogfmijcpaa.M
open Go.Proofs.YtcdafogfmijcpaaW.Ah Go.Proofs.Ytcdafogfmijcpaa
set_option linter.unusedVariables false
set_option linter.unusedSimpArgs false

/-! What both solutions hold. -/
def meetR (x y : Row) : Row := List.zipWith and x y
theorem meetR_len {x y : Row} (h : x.length = y.length) : (meetR x y).length = x.length := by simp [meetR, h]
theorem meetR_le {x y : Row} (h : x.length = y.length) : Le (meetR x y) x ∧ Le (meetR x y) y := by
  refine ⟨⟨meetR_len h, fun k hk => ?_⟩, ⟨by rw [meetR_len h, h], fun k hk => ?_⟩⟩
  all_goals
    unfold meetR at hk
    rw [List.getElem?_zipWith] at hk
    cases hx : x[k]? with
    | none => rw [hx] at hk; simp at hk
    | some a =>
      cases hy : y[k]? with
      | none => rw [hx, hy] at hk; simp at hk
      | some b => rw [hx, hy] at hk; simp only [Option.some.injEq] at hk; cases a <;> cases b <;> simp_all
theorem le_meetR {x y o : Row} (h1 : Le o x) (h2 : Le o y) : Le o (meetR x y) := by
  refine ⟨by rw [meetR_len (h1.1.symm.trans h2.1), h1.1], fun k hk => ?_⟩
  unfold meetR
  rw [List.getElem?_zipWith, h1.2 k hk, h2.2 k hk]; rfl
def meetO : Option Row → Option Row → Option Row
  | some x, some y => if x.length = y.length then some (meetR x y) else none
  | _, _ => none
def meetS (s t : StF) : StF := List.zipWith meetO s t
theorem meetS_get {s t : StF} (q : Nat) {z : Row} (h : (meetS s t)[q]? = some (some z)) : ∃ x y, s[q]? = some (some x) ∧ t[q]? = some (some y) ∧ x.length = y.length ∧ z = meetR x y := by
  unfold meetS at h
  rw [List.getElem?_zipWith] at h
  cases hs : s[q]? with
  | none => rw [hs] at h; simp at h
  | some a =>
    cases ht : t[q]? with
    | none => rw [hs, ht] at h; simp at h
    | some b =>
      rw [hs, ht] at h
      simp only [Option.some.injEq] at h
      cases a with
      | none => simp [meetO] at h
      | some x =>
        cases b with
        | none => simp [meetO] at h
        | some y =>
          by_cases hl : x.length = y.length
          · rw [meetO, if_pos hl] at h
            cases h
            exact ⟨x, y, rfl, rfl, hl, rfl⟩
          · rw [meetO, if_neg hl] at h
            cases h
theorem into_meet {S : Nat} {s t : StF} {to : Nat} {o : Row} (h1 : Into S s to o) (h2 : Into S t to o) : Into S (meetS s t) to o := by
  obtain ⟨x, e1, g1, l1⟩ := h1
  obtain ⟨y, e2, g2, l2⟩ := h2
  have hl : x.length = y.length := l1.1.symm.trans l2.1
  refine ⟨meetR x y, ?_, g1, le_meetR l1 l2⟩
  unfold meetS
  rw [List.getElem?_zipWith, e1, e2]
  simp [meetO, hl]
theorem least_ext {n S : Nat} {fst : Row} {stp stp2 : Nat → Row → Option (Row × List Nat)} (hm : Mono stp) (hm2 : Mono stp2) (h : ∀ q x r, stp q x = some r → stp2 q x = some r) {st : StF} (hl : Least n S fst stp st) : Least n S fst stp2 st := by
  obtain ⟨hs, hmin⟩ := hl
  refine ⟨⟨hs.len, hs.wf, hs.ent, fun q x hx => ?_⟩, fun t ht => ?_⟩
  · obtain ⟨o, l, e, g⟩ := hs.cls q x hx
    exact ⟨o, l, h q x _ e, g⟩
  · have hmt : Sol n S fst stp (meetS st t) := by
      refine ⟨by unfold meetS; rw [List.length_zipWith, hs.len, ht.len, Nat.min_self], fun q z hz => ?_, into_meet hs.ent ht.ent, fun q z hz => ?_⟩
      · obtain ⟨x, y, e1, e2, e3, rfl⟩ := meetS_get q hz
        rw [meetR_len e3]; exact hs.wf q x e1
      · obtain ⟨x, y, e1, e2, e3, rfl⟩ := meetS_get q hz
        obtain ⟨m1, m2⟩ := meetR_le e3
        obtain ⟨o, l, g1, g2⟩ := hs.cls q x e1
        obtain ⟨o', l', g3, g4⟩ := ht.cls q y e2
        obtain ⟨oo, k1, k2⟩ := hm q _ _ m1 o l g1
        obtain ⟨o3, k3, k4⟩ := hm2 q _ _ m2 o' l' g3
        have := h q _ _ k1
        rw [k3] at this
        simp only [Option.some.injEq, Prod.mk.injEq] at this
        obtain ⟨rfl, rfl⟩ := this
        exact ⟨o3, _, k1, fun to hto => into_meet ((g2 to hto).down k2) ((g4 to hto).down k4)⟩
    have h1 := hmin _ hmt
    refine ⟨by rw [hs.len, ht.len], fun q x hx => ?_⟩
    obtain ⟨z, hz, hle⟩ := h1.2 q x hx
    obtain ⟨x', y, e1, e2, e3, rfl⟩ := meetS_get q hz
    exact ⟨y, e2, hle.trans (meetR_le e3).2⟩

/-! The greater code. -/
def moreF (n : Int) : api_Func := ⟨(⟨#[109, 111, 114, 101]⟩ : ByteArray), n, n, [⟨7, 0, 0, 0⟩]⟩
def moreC (c : api_Code) (n : Int) : api_Code := ⟨c.Funs ++ [moreF n], c.Texts ++ [[109, 111, 114, 101]], c.Tables ++ [[0]]⟩
theorem getD_app {α : Type} (l m : List α) (k : Nat) (z : α) (h : k < l.length) : (l ++ m).getD k z = l.getD k z := by
  rw [List.getD_eq_getElem?_getD, List.getD_eq_getElem?_getD, List.getElem?_append_left h]
theorem there_more (c : api_Code) (n : Int) (i : api_Inst) (left : Int) (hi : fitI i = true) (h : thereP c i left = true) : thereP (moreC c n) i left = true := by
  have hft : (i.Op = 6 → 0 ≤ i.A) := fun e => by
    have hf := hi
    unfold fitI at hf
    rw [e] at hf
    simp only [Bool.and_eq_true, decide_eq_true_eq] at hf
    exact hf.2.2.1.1
  unfold thereP at h ⊢
  by_cases h1 : i.Op = 1
  · rw [if_pos h1] at h ⊢
    simp only [decide_eq_true_eq] at h ⊢
    simp only [moreC, List.length_append]; omega
  · rw [if_neg h1] at h ⊢
    by_cases h6 : i.Op = 6
    · rw [if_pos h6] at h ⊢
      simp only [Bool.and_eq_true, decide_eq_true_eq] at h ⊢
      have := hft h6
      refine ⟨by simp only [moreC, List.length_append]; omega, ?_⟩
      rw [← h.2]
      show ((c.Funs ++ [moreF n]).getD i.A.toNat z36).Params = _
      rw [getD_app _ _ _ _ (by omega)]
    · rw [if_neg h6] at h ⊢
      by_cases h11 : i.Op = 11
      · rw [if_pos h11] at h ⊢
        simp only [Bool.and_eq_true, decide_eq_true_eq] at h ⊢
        refine ⟨by simp only [moreC, List.length_append]; omega, h.2⟩
      · rw [if_neg h11] at h ⊢
        exact h
theorem b_of (i : api_Inst) (hi : fitI i = true) (h : i.Op = 11) : 0 ≤ i.B := by
  have hf := hi
  unfold fitI at hf
  rw [h] at hf
  simp only [Bool.and_eq_true, decide_eq_true_eq] at hf
  exact hf.2.2.2.1.1
theorem stp_more (c : api_Code) (n : Int) (f : api_Func) (hfit : ∀ (q : Nat) (i : api_Inst), f.Code[q]? = some i → fitI i = true) (q : Nat) (x : Row) (r : Row × List Nat) (h : stpC c f q x = some r) : stpC (moreC c n) f q x = some r := by
  unfold stpC at h ⊢
  cases hi : f.Code[q]? with
  | none => rw [hi] at h; cases h
  | some i =>
    have hf := hfit q i hi
    rw [hi] at h
    simp only at h ⊢
    split at h
    case isFalse => cases h
    rename_i hg
    rw [if_pos ⟨hg.1, there_more c n i _ hf hg.2⟩, ← h]
    have : tgP (moreC c n) i (q : Nat) = tgP c i (q : Nat) := by
      unfold tgP
      by_cases h11 : i.Op = 11
      · have hth := hg.2
        unfold thereP at hth
        rw [if_neg (by omega), if_neg (by omega), if_pos h11] at hth
        simp only [Bool.and_eq_true, decide_eq_true_eq] at hth
        have := b_of i hf h11
        rw [if_pos h11, if_pos h11]
        show List.filter _ ((c.Tables ++ [[0]]).getD i.B.toNat []) ++ _ = _
        rw [getD_app _ _ _ _ (by omega)]
      · rw [if_neg h11, if_neg h11]
    rw [this]
theorem spec_more {c : api_Code} (n : Int) {f : api_Func} (ff : FitF f) {st : StF} (h : specP c f = some st) : specP (moreC c n) f = some st :=
  leastP_some _ _ _ _ (least_ext (stpC_mono c f) (stpC_mono _ f) (stp_more c n f ff.fit) (spec_least h))
theorem specs_app (c : api_Code) : ∀ (l m : List api_Func) (a b : List (List (List Bool))), specsP c l = some a → specsP c m = some b → specsP c (l ++ m) = some (a ++ b)
  | [], m, a, b, h1, h2 => by rw [specsP] at h1; cases h1; exact h2
  | x :: l, m, a, b, h1, h2 => by
    rw [specsP] at h1
    rw [List.cons_append, specsP]
    cases hs : specP c x with
    | none => rw [hs] at h1; cases h1
    | some st =>
      rw [hs] at h1
      cases hl : specsP c l with
      | none => rw [hl] at h1; cases h1
      | some o2 =>
        rw [hl] at h1
        cases h1
        simp only
        rw [specs_app c l m o2 b hl h2]; rfl
theorem specs_more {c : api_Code} (n : Int) : ∀ (l : List api_Func) (a : List (List (List Bool))), (∀ f ∈ l, FitF f) → specsP c l = some a → specsP (moreC c n) l = some a
  | [], a, _, h => h
  | x :: l, a, hf, h => by
    rw [specsP] at h ⊢
    cases hs : specP c x with
    | none => rw [hs] at h; cases h
    | some st =>
      rw [hs] at h
      rw [spec_more n (hf x (by simp)) hs]
      cases hl : specsP c l with
      | none => rw [hl] at h; cases h
      | some o2 =>
        rw [hl] at h
        rw [specs_more n l o2 (fun f hfm => hf f (by simp [hfm])) hl]
        exact h
theorem le_all : ∀ {x y : Row}, Le x y → (∀ b ∈ x, b = true) → y = x := fun h g => le_trues h g
theorem spec_last (c : api_Code) (k : Nat) : specP c (moreF ((k + 1 : Nat) : Int)) = some [some (List.replicate (k + 1) true)] := by
  have hst : stpC c (moreF ((k + 1 : Nat) : Int)) 0 (List.replicate (k + 1) true) = some (outP ⟨7, 0, 0, 0⟩ (List.replicate (k + 1) true), []) := by
    have ht : takesP ⟨7, 0, 0, 0⟩ = 1 := by decide
    have hg : ∀ l : Int, thereP c ⟨7, 0, 0, 0⟩ l = true := fun l => rfl
    have htg : tgP c ⟨7, 0, 0, 0⟩ ((0 : Nat) : Int) = [] := by
      have h1 : goesP ⟨7, 0, 0, 0⟩ = [] := by decide
      have h2 : nextP ⟨7, 0, 0, 0⟩ = false := by decide
      unfold tgP
      rw [if_neg (by decide), h1, h2]; rfl
    unfold stpC moreF
    simp only [List.getElem?_cons_zero]
    rw [if_pos ⟨by rw [ht, List.length_replicate]; show 1 ≤ k + 1; omega, hg _⟩, htg]; rfl
  refine leastP_some _ _ _ _ ⟨⟨rfl, ?_, ?_, ?_⟩, ?_⟩
  · intro q x hx
    match q with
    | 0 => cases hx; rw [List.length_replicate]; show k + 1 ≤ ((k + 1 : Nat) : Int).toNat; omega
    | q + 1 => simp at hx
  · refine ⟨_, rfl, ?_, ?_⟩
    · rw [List.length_replicate]; exact Nat.le_refl _
    · have : ((moreF ((k + 1 : Nat) : Int)).Params).toNat = k + 1 := by show ((k + 1 : Nat) : Int).toNat = _; omega
      rw [this]; exact Le.rfl' _
  · intro q x hx
    match q with
    | 0 => cases hx; exact ⟨_, _, hst, fun to ht => by cases ht⟩
    | q + 1 => simp at hx
  · intro t ht
    refine ⟨by rw [ht.len]; rfl, fun q x hx => ?_⟩
    match q with
    | 0 =>
      cases hx
      obtain ⟨y, hy, _, hle⟩ := ht.ent
      have : ((moreF ((k + 1 : Nat) : Int)).Params).toNat = k + 1 := by show ((k + 1 : Nat) : Int).toNat = _; omega
      rw [this] at hle
      exact ⟨y, hy, hle⟩
    | q + 1 => simp at hx
theorem fit_more {c : api_Code} (hft : fitC c = true) (h1 : c.Funs.length < 80) (h2 : c.Texts.length < 4096) (h3 : c.Tables.length < 65536) {k : Nat} (hk : k < 6) : fitC (moreC c ((k + 1 : Nat) : Int)) = true := by
  unfold fitC at hft ⊢
  simp only [Bool.and_eq_true, decide_eq_true_eq] at hft ⊢
  obtain ⟨_, ⟨a, b⟩, d⟩ := hft
  simp only [moreC, List.length_append, List.length_cons, List.length_nil, List.all_append]
  refine ⟨⟨⟨by omega, by omega⟩, by omega⟩, ⟨?_, ?_⟩, ?_⟩
  · rw [a, Bool.true_and]
    match k, hk with
    | 0, _ => decide
    | 1, _ => decide
    | 2, _ => decide
    | 3, _ => decide
    | 4, _ => decide
    | 5, _ => decide
  · rw [b]; decide
  · rw [d]; decide
theorem small_more {c : api_Code} (hft : fitC c = true) (n : Int) : smallC (moreC c n) = true := by
  have h := fit_len hft
  unfold smallC
  simp only [Bool.and_eq_true, decide_eq_true_eq, List.all_eq_true, moreC, List.length_append, List.length_cons, List.length_nil, List.mem_append, List.mem_singleton]
  refine ⟨⟨⟨⟨by omega, ?_⟩, by omega⟩, by omega⟩, ?_⟩
  · rintro f (hf | rfl)
    · have := (fit_f (fit_each hft hf)).c2; omega
    · show 1 ≤ _; omega
  · rintro t (ht | rfl)
    · have hc := hft
      unfold fitC at hc
      simp only [Bool.and_eq_true, List.all_eq_true] at hc
      have := hc.2.2 t ht
      unfold fitTab at this
      simp only [Bool.and_eq_true, decide_eq_true_eq] at this
      omega
    · show 1 ≤ _; omega
theorem rem6 {a1 : Int} (w : W5 a1) : ∃ k : Nat, k < 6 ∧ IntKind.i64.wrap (1 + ((IntKind.i64.wrap a1).tmod 6)) = ((k + 1 : Nat) : Int) := by
  obtain ⟨h1, h2⟩ := w
  have h1' : 0 ≤ a1 := h1
  have h2' : a1 ≤ 255 := h2
  obtain ⟨a, rfl⟩ := Int.eq_ofNat_of_zero_le h1'
  refine ⟨a % 6, Nat.mod_lt _ (by omega), ?_⟩
  rw [wrap_nat a (by omega), show ((a : Int)).tmod 6 = ((a % 6 : Nat) : Int) by rw [Int.tmod_eq_emod_of_nonneg (by omega)]; rfl, Int.add_comm]
  exact wrap_succ _ (by omega)
theorem app_ok {α : Type} {b : Nat} {xs ys : List α} (hb : b ≤ 100) (h : xs.length + ys.length ≤ 2 ^ 30) : appM b xs ys = some (xs ++ ys) := by
  unfold appM
  have : (xs.length + ys.length) * b ≤ 2 ^ 30 * 100 := Nat.mul_le_mul h hb
  rw [if_pos ⟨by unfold roomMax; omega, by unfold roomMax; omega⟩]
theorem holds_FlowApart (c : api_Code) (a1 : Int) (w : W26 c) (w1 : W5 a1) : ∃ F, L21_FlowApart F c a1 = some true := by
  obtain ⟨F, hF⟩ : ∃ F, 2 ^ 47 + 1 ≤ F := ⟨_, Nat.le_refl _⟩
  refine ⟨F, ?_⟩
  have hsm := small_w w
  have hs := small_of hsm
  obtain ⟨b, hb⟩ := light_some hF hs 2000
  obtain ⟨r, hr, hcase⟩ := flow_some hsm
  have e1 : flow_Check F c = some r := hr
  simp only [L21_FlowApart, joinM]
  rw [hb, Option.bind_some]
  by_cases hbig : b = true ∧ c.Funs.length < 80 ∧ c.Texts.length < 4096 ∧ c.Tables.length < 65536
  case neg =>
    have : ((((!b) || (decide (80 ≤ (c.Funs.length : Int)))) || (decide (4096 ≤ (c.Texts.length : Int)))) || (decide (65536 ≤ (c.Tables.length : Int)))) = true := by
      cases b with
      | false => rfl
      | true =>
        simp only [Bool.not_true, Bool.false_or, Bool.or_eq_true, decide_eq_true_eq]
        have : ¬ (c.Funs.length < 80 ∧ c.Texts.length < 4096 ∧ c.Tables.length < 65536) := fun e => hbig ⟨rfl, e⟩
        omega
    rw [this, cond_true, awake_M hF]; rfl
  obtain ⟨rfl, h1, h2, h3⟩ := hbig
  rw [decide_eq_false (by omega), decide_eq_false (by omega), decide_eq_false (by omega)]
  simp only [Bool.not_true, Bool.or_false, cond_false]
  rw [e1, Option.bind_some]
  rcases hcase with ⟨rfl, _⟩ | ⟨hft, ⟨rfl, _⟩ | ⟨out, rfl, hsp⟩⟩
  · simp [awake_M hF]
  · simp [awake_M hF]
  · obtain ⟨g1, _⟩ := specs_get c _ _ hsp
    obtain ⟨k, hk6, hk⟩ := rem6 w1
    have hff : ∀ f ∈ c.Funs, FitF f := fun f hf => fit_f (fit_each hft hf)
    have hsp2 : specsP (moreC c ((k + 1 : Nat) : Int)) (moreC c ((k + 1 : Nat) : Int)).Funs = some (out ++ [[List.replicate (k + 1) true]]) := by
      refine specs_app _ c.Funs [moreF _] out _ (specs_more _ _ _ hff hsp) ?_
      rw [specsP, spec_last, specsP]; rfl
    have e2 : flow_Check F (moreC c ((k + 1 : Nat) : Int)) = some (out ++ [[List.replicate (k + 1) true]], 0) := by
      show flowP _ = _
      unfold flowP
      rw [if_pos (small_more hft _), if_pos (fit_more hft h1 h2 h3 hk6), hsp2]
    have hoo := okOut hft hsp
    have hh : flow_Height F [List.replicate (k + 1) true] = some ((k + 1 : Nat) : Int) := by
      rw [height_M (by simp) hF]
      show some (if (0 : Int) < ((List.replicate (k + 1) true).length : Int) then ((List.replicate (k + 1) true).length : Int) else 0) = _
      rw [List.length_replicate, if_pos (by omega)]
    rw [hk, app_ok (by omega) (by simp only [List.length_nil]; omega), Option.bind_some, List.nil_append]
    rw [app_ok (by omega) (by simp only [List.length_cons, List.length_nil]; omega), Option.bind_some]
    rw [app_ok (by omega) (by simp only [List.length_nil]; omega), Option.bind_some, List.nil_append]
    rw [app_ok (by omega) (by simp only [List.length_cons, List.length_nil]; omega), Option.bind_some]
    rw [app_ok (by omega) (by simp only [List.length_nil]; omega), Option.bind_some, List.nil_append]
    rw [app_ok (by omega) (by simp only [List.length_cons, List.length_nil]; omega), Option.bind_some]
    have e3 : flow_Check F ({ { { c with Funs := c.Funs ++ [moreF ((k + 1 : Nat) : Int)] } with Texts := c.Texts ++ [[109, 111, 114, 101]] } with Tables := c.Tables ++ [[0]] }) = some (out ++ [[List.replicate (k + 1) true]], 0) := e2
    have hsub : subM (out ++ [[List.replicate (k + 1) true]]) 0 (out.length : Int) = some out := by
      unfold subM
      rw [if_pos ⟨by omega, by omega, by rw [List.length_append]; omega⟩]
      simp
    have hix : idx (out ++ [[List.replicate (k + 1) true]]) (out.length : Int) = some [List.replicate (k + 1) true] := by
      unfold idx
      rw [if_pos (by omega), Int.toNat_natCast, List.getElem?_append_right (Nat.le_refl _), Nat.sub_self]; rfl
    have hw : IntKind.i64.wrap ((out.length : Int) + 1) = ((out.length + 1 : Nat) : Int) := wrap_succ _ (by have := hoo.l1; omega)
    unfold moreF at e3
    have hl0 : ((((out, (0 : Int)).2) != 0) = false) := rfl
    rw [hl0, cond_false]
    rw [e3, Option.bind_some]
    simp only [hw, hsub, Option.bind_some, same_refl hF hoo, hix, hh, awake_M hF]
    simp
end Go.Proofs.Ytcdafogfmijcpaa.M
