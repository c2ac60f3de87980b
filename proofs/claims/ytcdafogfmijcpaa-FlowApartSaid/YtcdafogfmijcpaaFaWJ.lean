/-
  The check of a code.
-/
import Derived.Test.YtcdafogfmijcpaaFaMC
import Derived.Test.YtcdafogfmijcpaaFaW1
namespace Go.Proofs.Ytcdafogfmijcpaa.Flo
open Go.Proofs.YtcdafogfmijcpaaW.Ah
open M (api_Code api_Func api_Inst c3 c4 c9 c22 c26 c29 c36 c41 c42 c44 c47 c51 StF RowT cRow rowsT row0 fitI rowI iC takesP putsP goesP nextP allP wantsP thereP putP tgP comeP comeW comesW joinR outP stpC mu Sol Least InvW Small fitC flowP specP specsP rowsOf)
set_option maxRecDepth 8000
set_option linter.unusedVariables false
set_option linter.unusedSimpArgs false
attribute [local simp] T.t2 T.t3 T.t4 T.t9 T.t22 T.t23 T.t24 T.t26 T.t29 T.t30 T.t36 T.t39 T.t41 T.t42 T.t44 T.t47 T.t53 T.t55 T.t76 T.t92 T.t93 T.t95 T.t104 T.t106 Op.maxDepth List.range List.range.loop
attribute [-simp] appendAV

theorem fit_fun {c : api_Code} (h : fitC c = true) {f : api_Func} (hf : f ∈ c.Funs) : M.fitFun f = true := by
  unfold M.fitC at h
  simp only [Bool.and_eq_true, List.all_eq_true] at h
  exact h.2.1.1 f hf
theorem fit_funs {c : api_Code} (h : fitC c = true) : c.Funs.length ≤ 80 := by
  unfold M.fitC at h
  simp only [Bool.and_eq_true, decide_eq_true_eq] at h
  exact h.1.1.1
theorem fit_tab {c : api_Code} (h : fitC c = true) {t : List Int} (ht : t ∈ c.Tables) : 0 < t.length ∧ t.length ≤ 2 ^ 20 := by
  unfold M.fitC at h
  simp only [Bool.and_eq_true, List.all_eq_true] at h
  have := h.2.2 t ht
  unfold M.fitTab at this
  simp only [Bool.and_eq_true, decide_eq_true_eq] at this
  omega
theorem fit_okc {c : api_Code} (h : fitC c = true) {f : api_Func} (hf : f ∈ c.Funs) : Okc c f f.Slots.toNat ∧ 0 ≤ f.Params ∧ f.Params ≤ 6 := by
  have hff := fit_fun h hf
  unfold M.fitFun at hff
  simp only [Bool.and_eq_true, decide_eq_true_eq, List.all_eq_true] at hff
  obtain ⟨h1, ⟨⟨⟨h2, h3⟩, h4, h5⟩, h6, h7⟩, h8⟩ := hff
  exact ⟨⟨by omega, by omega, by omega, fun q i hq => h8 i (List.mem_of_getElem? hq), fun t ht => fit_tab h ht⟩, h2, h3⟩

theorem nilsA : ∀ m : Nat, (List.replicate m (AV.sc (.slice none 0 0))).length = m := fun m => by simp

theorem specs_snoc (c : api_Code) : ∀ (l : List api_Func) (f : api_Func), specsP c (l ++ [f]) = (match specsP c l with | none => none | some out => match specP c f with | none => none | some st => some (out ++ [rowsOf st]))
  | [], f => by
    rw [List.nil_append, M.specsP, M.specsP, M.specsP]
    cases specP c f <;> rfl
  | x :: l, f => by
    rw [List.cons_append, M.specsP, M.specsP, specs_snoc c l f]
    cases specP c x with
    | none => rfl
    | some st =>
      simp only
      cases specsP c l with
      | none => rfl
      | some out =>
        simp only
        cases specP c f <;> rfl
theorem specs_none (c : api_Code) : ∀ (l : List api_Func) {f : api_Func}, f ∈ l → specP c f = none → specsP c l = none
  | x :: l, f, h, hs => by
    rw [M.specsP]
    rcases List.mem_cons.1 h with rfl | h
    · rw [hs]
    · rw [specs_none c l h hs]
      cases specP c x <;> rfl

def blkOf : AV → Option Nat
  | .osl i _ _ _ => some i
  | _ => none
theorem view_rows {H : Mem} {role : Nat → Option Role} {ids : List Nat} : ∀ (st : StF) (hv : List AV) (f : Nat → Nat), hv.length = st.length → (∀ (q : Nat) (r : Option M.Row), st[q]? = some r → ∃ v, hv[q]? = some v ∧ RowAt H role (f q) v r) → (∀ v ∈ hv, ∀ i, blkOf v = some i → i ∈ ids) → ViewL T.T H ids hv (encs c42 (rowsOf st))
  | [], [], _, _, _, _ => .nil
  | r :: st, v :: hv, f, hl, h, hi => by
    have hx : rowsOf (r :: st) = r.getD [] :: rowsOf st := rfl
    rw [hx, encs_cons]
    obtain ⟨v', h1, h2⟩ := h 0 r rfl
    simp only [List.getElem?_cons_zero, Option.some.injEq] at h1
    subst h1
    refine .cons ?_ (view_rows st hv (fun q => f (q + 1)) (by simpa using hl) (fun q r' hq => by
      obtain ⟨v'', g1, g2⟩ := h (q + 1) r' (by simpa using hq)
      exact ⟨v'', by simpa using g1, g2⟩) (fun v' hv' => hi v' (by simp [hv'])))
    cases r with
    | none => have : v = .sc (.slice none 0 0) := h2; subst this; exact .nilS
    | some x =>
      obtain ⟨i, cc, ys, rfl, h3, _, h4⟩ := h2
      exact view_ownC (e := c4) (z := 1) (o := some i) (c := cc) M.fr4 ⟨ys, h3, h4⟩ (fun j hj => by cases hj; exact hi (.osl i 0 x.length cc) (by simp) i rfl)
  | [], _ :: _, _, hl, _, _ => by simp at hl
  | _ :: _, [], _, hl, _, _ => by simp at hl

theorem moreO {H : Mem} {n : Nat} {o cc : Option Nat} {outs : List (List (List Bool))} (ho : OwnC H 36 1 c36 o cc outs) (hn : ∀ i, o = some i → i < n) (hl : outs.length ≤ 2 ^ 20) (x : List (List Bool)) :
    ∃ o' c' H' n', appendAV T.T (upd H n (some (.cells (c36 x) 36))) (n + 1) 29 (slc o outs.length cc) (.osl n 0 1 (some 1)) = some (slc o' (outs ++ [x]).length c', H', n') ∧ OwnC H' 36 1 c36 o' c' (outs ++ [x]) ∧ n ≤ n' ∧ (∀ i, o' = some i → (o = some i ∨ n ≤ i) ∧ i < n') ∧ (∀ j, j < n → o ≠ some j → H' j = H j) := by
  obtain ⟨o', c', H', n', e1, o1, le1, f1, k1⟩ := append_ownC (e := c36) (z := 1) T.t29 rfl T.t36 rfl (by decide) rfl (by decide) (H := upd H n (some (.cells (c36 x) 36))) (n := n + 1) (o := o) (c := cc) (xs := outs)
    (ho.mono fun i hi => upd_ne _ _ (by have := hn i hi; omega)) (fun i hi => by have := hn i hi; omega) (y := .osl n 0 1 (some 1)) [x] (by simp [encs, elemsOf]) rfl (by simp [roomMax]; omega) (by simp [roomMax]; omega)
  refine ⟨o', c', H', n', e1, o1, by omega, fun i hi => ?_, fun j hj hne => by rw [k1 j (by omega) hne, upd_ne _ _ (by omega)]⟩
  have := f1 i hi
  refine ⟨?_, this.2⟩
  rcases this.1 with h | h
  · exact .inl h
  · exact .inr (by omega)

/-- The walker at its begin. -/
def role0 (p A K : Nat) : Nat → Option Role := fun j => if j = p then some .str else if j = A then some .tab else if j = K then some .kn else none
theorem wkr0 {c : api_Code} {f : api_Func} {p A K : Nat} {H : Mem} {n : Nat} (hpA : p ≠ A) (hpK : p ≠ K) (hAK : A ≠ K) (hp : p < n) (hA : A < n) (hK : K < n)
    (h1 : H p = some (.cells (wkC c f A K f.Code.length (.sc (.slice none 0 0)) false) 55)) (h2 : H A = some (.cells (List.replicate f.Code.length (.sc (.slice none 0 0))) 42)) (h3 : H K = some (.cells (List.replicate f.Code.length (B false)) 4)) :
    Wkr c f p A K (role0 p A K) H n (List.replicate f.Code.length none) [] false := by
  refine ⟨⟨none, by rw [h1, List.length_replicate]; rfl, rfl, fun i hi => by cases hi⟩, ⟨_, h2, by simp, fun q r hq => ?_⟩, by rw [h3]; simp, by simp [role0], by simp [role0, Ne.symm hpA], by simp [role0, Ne.symm hpK, Ne.symm hAK], fun j hj => ?_, by simp⟩
  · obtain ⟨g1, g2⟩ := List.getElem?_eq_some_iff.1 hq
    simp only [List.length_replicate] at g1
    simp only [List.getElem_replicate] at g2
    subst g2
    exact ⟨.sc (.slice none 0 0), by simp [g1], rfl⟩
  · unfold role0 at hj
    split at hj
    · omega
    · split at hj
      · omega
      · split at hj
        · omega
        · exact absurd rfl hj

theorem flow_Check_run (c : api_Code) (r : List (List (List Bool)) × Int) (h : flowP c = some r) : RunF Try.prog T.T 8 [.agg (c26 c)] (.tup [.ssl (encs c36 r.1) r.1.length false, .sc (.int .i64 r.2)]) := by
  unfold M.flowP at h
  split at h
  case isFalse => cases h
  rename_i hsm
  have hs := M.small_of hsm
  have hfit := M.ok_code_Fit (2 ^ 47 + 1) c (fitC c) (M.codeFit_M c (Nat.le_refl _) hs)
  have hc26 : c26 c = [.ssl (encs c41 c.Funs) c.Funs.length false, .ssl (encs c51 c.Texts) c.Texts.length false, .ssl (encs c47 c.Tables) c.Tables.length false] := rfl
  rw [hc26] at hfit ⊢
  refine RunF.z Try.func8 rfl rfl rfl rfl rfl fun C hr => ?_
  iterate 6 (try (refine evS_sound (f := 1) ?_; simp [partOf]))
  iterate 6 (try (refine evS_sound (f := 1) ?_; simp [partOf]))
  refine Stk.callF 2 hfit rfl rfl rfl (by simp) (by simp [freeL, free, freeL_encs M.fr41, freeL_encs M.fr51, freeL_encs M.fr47]) rfl ?_
  by_cases hft : fitC c = true
  case neg =>
    rw [if_neg hft] at h
    cases h
    have hff : fitC c = false := by simpa using hft
    rw [hff]
    simp
    iterate 16 (try (refine evS_sound (f := 1) ?_; simp))
    exact (hr _ _ _ (.tup [.sc (.slice none 0 0), I 19]) [] (by simp) (.inr (.inr (.tup (.cons .nilS (.free rfl)))))).1
  rw [if_pos hft] at h
  have hfl := fit_funs hft
  rw [hft]
  simp
  iterate 24 (try (refine evS_sound (f := 1) ?_; simp [partOf]))
  refine Stk.loop 1 (fun μ t H n => ∃ (k : Nat) (o cc : Option Nat) (outs : List (List (List Bool))), k ≤ c.Funs.length ∧ μ = c.Funs.length - k ∧ t 1 = .own 0 0 ∧ t 4 = slc o outs.length cc ∧ t 12 = .ssl (encs c41 c.Funs) c.Funs.length false ∧ t 13 = I c.Funs.length ∧ t 14 = I k ∧ 1 ≤ n ∧
    H 0 = some (.cells [.ssl (encs c41 c.Funs) c.Funs.length false, .ssl (encs c51 c.Texts) c.Texts.length false, .ssl (encs c47 c.Tables) c.Tables.length false] 26) ∧ OwnC H 36 1 c36 o cc outs ∧ (∀ i, o = some i → 1 ≤ i ∧ i < n) ∧ specsP c (c.Funs.take k) = some outs ∧ outs.length = k) c.Funs.length
    ⟨0, none, none, [], by omega, rfl, by simp, by simp, by simp, by simp, by simp, Nat.le_refl _, by simp, rfl, fun i hi => (by cases hi), by rfl, rfl⟩ ?_
  rintro J hJ μ t H n ⟨k, o, cc, outs, hk, rfl, t1, t4, t12, t13, t14, hn1, h0, hO, hof, hsp, hol⟩
  by_cases hlt : k < c.Funs.length
  · have hlti : (k : Int) < c.Funs.length := by omega
    have wk := wrap_succ k (by omega)
    obtain ⟨f, hf⟩ : ∃ f, c.Funs[k] = f := ⟨_, rfl⟩
    have hfm : f ∈ c.Funs := by rw [← hf]; exact List.getElem_mem hlt
    obtain ⟨okc, hp0, hp6⟩ := fit_okc hft hfm
    obtain ⟨P, hP⟩ := Int.eq_ofNat_of_zero_le hp0
    have hcl := okc.cl
    have hin : partOf T.T 41 (List.drop (k * 4) (encs c41 c.Funs)) 0 = some (.agg [.sc (.string f.Name), I f.Params, I f.Slots, .ssl (encs c44 f.Code) f.Code.length false]) := by
      have := part_agg (T := T.T) (e := c41) (z := 4) T.t41 rfl rfl c.Funs k hlt
      rw [this, hf]; rfl
    have hroom : (f.Code.length : Int) ≤ (roomMax : Int) := by unfold roomMax; omega
    have hroom2 : (f.Code.length : Int) * 24 ≤ (roomMax : Int) := by unfold roomMax; omega
    simp [t13, t14, hlti]
    iterate 16 (try (refine evS_sound (f := 1) ?_; simp [t1, t12, t13, t14, hlti, hlt, hin, splice]))
    obtain ⟨H1, hH1⟩ : ∃ H1 : Mem, H1 = upd (upd H n (some (.cells [.sc (.string ⟨#[]⟩), .sc (.int .i64 0), .sc (.int .i64 0), .sc (.slice none 0 0)] 41))) n (some (.cells [.sc (.string f.Name), I f.Params, I f.Slots, .ssl (encs c44 f.Code) f.Code.length false] 41)) := ⟨_, rfl⟩
    rw [← hH1]
    have hk1 : ∀ j, j < n → H1 j = H j := fun j hj => by rw [hH1, upd_ne _ _ (by omega), upd_ne _ _ (by omega)]
    have hb1 : H1 n = some (.cells [.sc (.string f.Name), I f.Params, I f.Slots, .ssl (encs c44 f.Code) f.Code.length false] 41) := by rw [hH1, upd_same]
    have h01 := (hk1 0 (by omega)).trans h0
    refine Stk.rgD [.rd [0], .rd [n], .rd [], .rd [n], .rd [], .mem [] (n + 1), .rd [], .rd [n], .rd [], .mem [] (n + 1), .rd [], .mem [] (n + 1), .rd []] (some 9) (by kernel_rfl) (drawOk2_ren [0, n] (by simp; omega) (n + 1) [.rd [0], .rd [1], .rd [], .rd [1], .rd [], .mem [] 0, .rd [], .rd [1], .rd [], .mem [] 0, .rd [], .mem [] 0, .rd []] rfl (by rfl)) rfl (by simp [below]) rfl ?_
    have hc41 : c41 f = [.sc (.string f.Name), I f.Params, I f.Slots, .ssl (encs c44 f.Code) f.Code.length false] := rfl
    iterate 30 (try (refine evS_sound (f := 1) ?_; simp [t1, hb1, h01, partOf, hroom, hroom2]))
    refine ⟨fun j h1 h2 => by omega, ?_⟩
    iterate 10 (try (refine evS_sound (f := 1) ?_; simp [t1, hb1, h01, partOf, hroom, hroom2]))
    refine ⟨fun j h1 h2 => by omega, ?_⟩
    iterate 4 (try (refine evS_sound (f := 1) ?_; simp [t1, hb1, h01, partOf, hroom, hroom2]))
    refine ⟨fun j h1 h2 => by omega, ?_⟩
    iterate 3 (try (refine evS_sound (f := 1) ?_; simp))
    obtain ⟨H2, hH2⟩ : ∃ H2 : Mem, H2 = upd (upd (upd H1 (n + 1) (some (.cells (List.replicate f.Code.length (.sc (.slice none 0 0))) 42))) (n + 1 + 1) (some (.cells (List.replicate f.Code.length (.sc (.bool false))) 4))) (n + 1 + 1 + 1) (some (.cells (wkC c f (n + 1) (n + 1 + 1) f.Code.length (.sc (.slice none 0 0)) false) 55)) := ⟨_, rfl⟩
    rw [← hH2]
    have w0 : Wkr c f (n + 1 + 1 + 1) (n + 1) (n + 1 + 1) (role0 (n + 1 + 1 + 1) (n + 1) (n + 1 + 1)) H2 (n + 1 + 1 + 1 + 1) (List.replicate f.Code.length none) [] false :=
      wkr0 (by omega) (by omega) (by omega) (by omega) (by omega) (by omega) (by rw [hH2, upd_same]) (by rw [hH2, upd_ne _ _ (by omega), upd_ne _ _ (by omega), upd_same]) (by rw [hH2, upd_ne _ _ (by omega), upd_same])
    have hk2 : ∀ j, j < n → H2 j = H j := fun j hj => by rw [hH2, upd_ne _ _ (by omega), upd_ne _ _ (by omega), upd_ne _ _ (by omega), hk1 j hj]
    have hrn : ∀ j, j < n + 1 → role0 (n + 1 + 1 + 1) (n + 1) (n + 1 + 1) j = none := fun j hj => by
      unfold role0; rw [if_neg (by omega), if_neg (by omega), if_neg (by omega)]
    have hSl := okc.sle
    have hms : 2 * (f.Code.length * (f.Slots.toNat + 2)) ≤ 2 ^ 38 := by
      have := Nat.mul_le_mul hcl (show f.Slots.toNat + 2 ≤ 8194 by omega)
      omega
    have hall := all_ok w0 okc hP (by omega) hms
    have hspec : specP c f = M.leastP f.Code.length f.Slots.toNat (List.replicate P true) (stpC c f) := by unfold M.specP; rw [hP, Int.toNat_natCast]
    refine Stk.gen (fun t' H' n' => t' 1 = .own 0 0 ∧ t' 4 = slc o outs.length cc ∧ t' 7 = .own (n + 1 + 1 + 1) 0 ∧ t' 12 = .ssl (encs c41 c.Funs) c.Funs.length false ∧ t' 13 = I c.Funs.length ∧ t' 14 = I k ∧ H' = H2 ∧ n' = n + 1 + 1 + 1 + 1) ⟨by simp [t1], by simp [t4], by simp, by simp [t12], by simp [t13], by simp [t14], rfl, rfl⟩ ?_
    rintro t' H' n' ⟨u1, u4, u7, u12, u13, u14, hHe, hne⟩
    rw [hHe, hne]
    clear hHe hne hH2 hb1 h01 hH1
    iterate 6 (try (refine evS_sound (f := 1) ?_; simp [u7]))
    refine Stk.callS 1 hall rfl rfl rfl (by simp) ?_
    rintro v H3 n3 ⟨rfl, hres⟩
    rcases hres with ⟨st, todo, hleast, hle3, hk3, role3, hr3, w3⟩ | ⟨hno, st, todo, hle3, hk3, role3, hr3, w3⟩
    · have hsome := M.leastP_some _ _ _ _ hleast
      rw [← hspec] at hsome
      obtain ⟨ot3, hp3, _, _⟩ := w3.hp
      obtain ⟨hv, hA3, hvl, hrow⟩ := w3.hA
      simp
      iterate 15 (try (refine evS_sound (f := 1) ?_; simp [u4, u7, hp3, partOf]))
      have hstl : st.length = f.Code.length := w3.sl
      obtain ⟨ids, hids⟩ : ∃ ids, ids = (n + 1) :: hv.filterMap blkOf := ⟨_, rfl⟩
      have hidn : ∀ i ∈ ids, n < i := fun i hi => by
        rw [hids] at hi
        rcases List.mem_cons.1 hi with h | h
        · omega
        · obtain ⟨v, hv1, hv2⟩ := List.mem_filterMap.1 h
          obtain ⟨q, hq1, hq2⟩ := List.mem_iff_getElem.1 hv1
          obtain ⟨v', g1, g2⟩ := hrow q st[q] (List.getElem?_eq_getElem (by omega))
          rw [List.getElem?_eq_getElem hq1, hq2] at g1
          cases g1
          cases hsq : st[q] with
          | none => rw [hsq] at g2; have : v = .sc (.slice none 0 0) := g2; subst this; cases hv2
          | some x =>
            rw [hsq] at g2
            obtain ⟨i', cc', ys', rfl, _, hri, _⟩ := g2
            cases hv2
            refine Nat.lt_of_not_le fun hle => ?_
            rw [hr3 i (by omega), hrn i (by omega)] at hri
            cases hri
      have hrl : (rowsOf st).length = st.length := by unfold M.rowsOf; rw [List.length_map]
      have hview : View T.T H3 ids (.osl (n + 1) 0 st.length (some st.length)) (.ssl (encs c42 (rowsOf st)) (rowsOf st).length false) := by
        rw [hrl]
        refine .oslF hv.length (by rw [hids]; simp) hA3 ?_
        rw [List.drop_zero, List.take_length]
        exact view_rows st hv (fun q => q) hvl hrow (fun v hv1 i hi => by rw [hids]; exact List.mem_cons_of_mem _ (List.mem_filterMap.2 ⟨v, hv1, hi⟩))
      refine Stk.wkf trivial ids 40 (.ssl (encs c42 (rowsOf st)) (rowsOf st).length false) (.inr (.inr (by simpa using hview))) (fun t9 H4 ht9 hk4 => ?_)
      have hk4' : ∀ j, j < n → H4 j = H j := fun j hj => by rw [hk4 j (fun hm => by have := hidn j hm; omega), hk3 j (by omega) (hrn j (by omega)), hk2 j hj]
      obtain ⟨o', c', H5, n5, e5, o5, le5, f5, k5⟩ := moreO (n := n3) (hO.mono fun i hi => hk4' i (hof i hi).2) (fun i hi => by have := (hof i hi).2; omega) (by omega) (rowsOf st)
      have x1 : t9 1 = .own 0 0 := by rw [ht9]; simp [u1]
      have x12 : t9 12 = .ssl (encs c41 c.Funs) c.Funs.length false := by rw [ht9]; simp [u12]
      have x13 : t9 13 = I c.Funs.length := by rw [ht9]; simp [u13]
      have x14 : t9 14 = I k := by rw [ht9]; simp [u14]
      have x36 : t9 36 = slc o outs.length cc := by rw [ht9]; simp [u4]
      have x40 : t9 40 = .ssl (encs c42 (rowsOf st)) (rowsOf st).length false := by rw [ht9]; simp
      clear ht9
      iterate 12 (try (refine evS_sound (f := 1) ?_; simp [x36, x40, x14, e5, wk]))
      refine ⟨_, by omega, hJ _ _ _ _ ⟨k + 1, o', c', outs ++ [rowsOf st], hlt, rfl, by simp [x1], by simp, by simp [x12], by simp [x13], by simp, by omega, ?_, o5, fun i hi => ?_, ?_, by rw [List.length_append, hol]; rfl⟩⟩
      · rw [k5 0 (by omega) (fun e => by have := hof 0 e; omega), hk4' 0 (by omega), h0]
      · have := f5 i hi
        refine ⟨?_, this.2⟩
        rcases this.1 with h | h
        · exact (hof i h).1
        · omega
      · rw [List.take_add_one, List.getElem?_eq_getElem hlt, hf]
        show specsP c (c.Funs.take k ++ [f]) = _
        rw [specs_snoc, hsp, hsome]
    · have hnone := M.leastP_none _ _ _ _ hno
      rw [← hspec] at hnone
      rw [specs_none c c.Funs hfm hnone] at h
      cases h
      obtain ⟨ot3, hp3, _, _⟩ := w3.hp
      simp
      iterate 20 (try (refine evS_sound (f := 1) ?_; simp [u7, hp3, partOf]))
      exact (hr _ _ _ (.tup [.sc (.slice none 0 0), I 24]) [] (by simp) (.inr (.inr (.tup (.cons .nilS (.free rfl)))))).1
  · have hke : k = c.Funs.length := by omega
    subst hke
    rw [List.take_length] at hsp
    rw [hsp] at h
    cases h
    simp [t13, t14]
    iterate 16 (try (refine evS_sound (f := 1) ?_; simp [t4, t13, t14]))
    exact (hr _ _ _ (.tup [slc o outs.length cc, I 0]) o.toList (by simp [t4]) (.inr (.inr (.tup (.cons (view_ownC M.fr36 hO (fun i hi => by rw [hi]; simp)) (.free rfl)))))).1
end Go.Proofs.Ytcdafogfmijcpaa.Flo
