/-
  Types more behind others change nothing of what has values ahead.
-/
import Derived.Test.YtappiofmkoelnaaTmFE
namespace Go.Proofs.Ytappiofmkoelnaa.M
open Go.Proofs.YtappiofmkoelnaaW.Ah Go.Proofs.Ytappiofmkoelnaa
set_option linter.unusedVariables false
set_option linter.unusedSimpArgs false

def ownF (d : api_Data) (f : api_Type) : Bool := (f.Kind == 2) && (f.Name.toList == d.Name.toList)
def bareD (d : api_Data) : Bool := d.Cons.any fun c => (c.Fields.length : Int) == 0
def ownD (d : api_Data) : Bool := d.Cons.all fun c => c.Fields.any (ownF d)
def knowD (l : List api_Data) (d : api_Data) : Bool := d.Cons.all fun c => c.Fields.all (knownT l)

theorem more_fields {F : Nat} {l : List api_Data} {d : api_Data} {c : api_Con} {K : Bool → Bool → Option Bool} (hl : c.Fields.length ≤ maxLen) (hk : ∀ f ∈ c.Fields, ty_Known F l f = some (knownT l f)) : ∀ (post pre : List api_Type) (n : Nat) (o it : Bool), c.Fields = pre ++ post → post.length < n →
    L07_TyMore_L2 F l d c K n o it (pre.length : Int) = K (o && post.all (knownT l)) (it || post.any (ownF d))
  | [], pre, 0, o, it, e, hn => by simp at hn
  | [], pre, n + 1, o, it, e, hn => by
    rw [L07_TyMore_L2]
    have : decide ((pre.length : Int) < (c.Fields.length : Int)) = false := by rw [e]; simp
    rw [this]; simp
  | t :: post, pre, 0, o, it, e, hn => by simp at hn
  | t :: post, pre, n + 1, o, it, e, hn => by
    rw [L07_TyMore_L2]
    have : decide ((pre.length : Int) < (c.Fields.length : Int)) = true := by rw [e]; simp; omega
    have hq : c.Fields[pre.length]? = some t := by rw [e]; simp
    rw [this]
    simp only [cond_true, joinM, idx_nat, hq, Option.bind_some]
    rw [hk t (by rw [e]; simp), wrapS _ (by have := big hl; rw [e] at this; simp at this; omega)]
    have ih := fun o it => more_fields (F := F) (d := d) (K := K) hl hk post (pre ++ [t]) n o it (by simp [e]) (by simp at hn; omega)
    have hlen : ((pre.length + 1 : Nat) : Int) = ((pre ++ [t]).length : Int) := by simp
    have how : ((t.Kind == 2) && (t.Name.toList == d.Name.toList)) = ownF d t := rfl
    rw [hlen, how]
    simp only [Option.bind_some, ih, List.all_cons, List.any_cons]
    cases o with
    | true => simp [Bool.or_assoc]
    | false => simp [Bool.or_assoc]

theorem more_cons {F : Nat} {l : List api_Data} {d : api_Data} {K : Bool → Bool → Bool → Option Bool} (hl : d.Cons.length ≤ maxLen) (hf : ∀ c ∈ d.Cons, c.Fields.length ≤ maxLen ∧ c.Fields.length < F) (hk : ∀ c ∈ d.Cons, ∀ f ∈ c.Fields, ty_Known F l f = some (knownT l f)) : ∀ (post pre : List api_Con) (n : Nat) (o b w : Bool), d.Cons = pre ++ post → post.length < n →
    L07_TyMore_L1 F l d K n o b w (pre.length : Int) = K (o && post.all fun c => c.Fields.all (knownT l)) (b || post.any fun c => (c.Fields.length : Int) == 0) (w && post.all fun c => c.Fields.any (ownF d))
  | [], pre, 0, o, b, w, e, hn => by simp at hn
  | [], pre, n + 1, o, b, w, e, hn => by
    rw [L07_TyMore_L1]
    have : decide ((pre.length : Int) < (d.Cons.length : Int)) = false := by rw [e]; simp
    rw [this]; simp
  | t :: post, pre, 0, o, b, w, e, hn => by simp at hn
  | t :: post, pre, n + 1, o, b, w, e, hn => by
    rw [L07_TyMore_L1]
    have : decide ((pre.length : Int) < (d.Cons.length : Int)) = true := by rw [e]; simp; omega
    have hq : d.Cons[pre.length]? = some t := by rw [e]; simp
    have hm : t ∈ d.Cons := by rw [e]; simp
    rw [this]
    simp only [cond_true, joinM, idx_nat, hq, Option.bind_some]
    have hin := fun K' => more_fields (F := F) (l := l) (d := d) (c := t) (K := K') (hf t hm).1 (hk t hm) t.Fields [] F o false rfl (hf t hm).2
    simp only [show (([] : List api_Type).length : Int) = 0 from rfl] at hin
    rw [hin, wrapS _ (by have := big hl; rw [e] at this; simp at this; omega)]
    have ih := fun o b w => more_cons (F := F) (K := K) hl hf hk post (pre ++ [t]) n o b w (by simp [e]) (by simp at hn; omega)
    have hlen : ((pre.length + 1 : Nat) : Int) = ((pre ++ [t]).length : Int) := by simp
    rw [hlen, ih]
    simp only [List.all_cons, List.any_cons, Bool.false_or, Bool.and_assoc, Bool.or_assoc]

theorem more_loop {F : Nat} {l : List api_Data} {a : List Bool} {K : Bool → Option Bool} (hl : l.length ≤ maxLen) (hF : l.length < F) (hla : a.length = l.length) (hc : ∀ d ∈ l, d.Cons.length ≤ maxLen ∧ d.Cons.length < F ∧ (∀ c ∈ d.Cons, c.Fields.length ≤ maxLen ∧ c.Fields.length < F) ∧ (∀ c ∈ d.Cons, ∀ f ∈ c.Fields, ty_Known F l f = some (knownT l f)))
    (h : ∀ (i : Nat) d, l[i]? = some d → (bareD d && !a.getD i false) = false ∧ (ownD d = true → a.getD i false = true → at1 (hasName d.Name) l ≠ (i : Int))) : ∀ (post pre : List api_Data) (n : Nat) (o : Bool), l = pre ++ post → post.length < n →
    L07_TyMore_L0 F l a K n o (pre.length : Int) = K (o && post.all (knowD l))
  | [], pre, 0, o, e, hn => by simp at hn
  | [], pre, n + 1, o, e, hn => by
    rw [L07_TyMore_L0]
    have : decide ((pre.length : Int) < (l.length : Int)) = false := by rw [e]; simp
    rw [this]; simp
  | t :: post, pre, 0, o, e, hn => by simp at hn
  | t :: post, pre, n + 1, o, e, hn => by
    rw [L07_TyMore_L0]
    have : decide ((pre.length : Int) < (l.length : Int)) = true := by rw [e]; simp; omega
    have hq : l[pre.length]? = some t := by rw [e]; simp
    have hm : t ∈ l := by rw [e]; simp
    have hlt := (List.getElem?_eq_some_iff.1 hq).1
    have ha : a[pre.length]? = some (a.getD pre.length false) := by rw [List.getD_eq_getElem?_getD, List.getElem?_eq_getElem (by omega)]; rfl
    obtain ⟨c1, c2, c3, c4⟩ := hc t hm
    obtain ⟨h1, h2⟩ := h _ t hq
    rw [this]
    simp only [cond_true, joinM, idx_nat, hq, Option.bind_some, ha]
    have hin := fun K' => more_cons (F := F) (l := l) (d := t) (K := K') c1 c3 c4 t.Cons [] F o false true rfl c2
    simp only [show (([] : List api_Con).length : Int) = 0 from rfl] at hin
    rw [hin, wrapS _ (by have := big hl; rw [e] at this; simp at this; omega)]
    have ih := fun o => more_loop (F := F) (K := K) hl hF hla hc h post (pre ++ [t]) n o (by simp [e]) (by simp at hn; omega)
    have hlen : ((pre.length + 1 : Nat) : Int) = ((pre ++ [t]).length : Int) := by simp
    rw [hlen, find07_ok t.Name hl hF]
    simp only [ih, List.all_cons, Bool.false_or, Bool.true_and, Option.bind_some]
    have e1 : (t.Cons.any fun c => (c.Fields.length : Int) == 0) = bareD t := rfl
    have e2 : (t.Cons.all fun c => c.Fields.any (ownF t)) = ownD t := rfl
    have e3 : (t.Cons.all fun c => c.Fields.all (knownT l)) = knowD l t := rfl
    rw [e1, e2, e3, ← Bool.and_assoc]
    have hx : (bareD t = true → a.getD pre.length false = true) := fun hb => by
      rw [hb] at h1; simpa using h1
    cases hb : bareD t <;> cases ho : ownD t <;> cases hav : a.getD pre.length false <;> simp only [cond_true, cond_false, Bool.not_true, Bool.not_false]
    all_goals first
      | (have := hx hb; rw [hav] at this; cases this; done)
      | (have := h2 ho hav; rw [show (at1 (hasName t.Name) l == (pre.length : Int)) = false from by simpa using this]; rfl)
      | rfl

theorem more_last {F : Nat} {l : List api_Data} {a b : List Bool} {o : Bool} (hl : l.length ≤ maxLen) (hla : a.length = l.length) (hlb : l.length ≤ b.length) (h : o = true → ∀ i, i < l.length → a.getD i false = b.getD i false) : ∀ (post pre : List api_Data) (n : Nat), l = pre ++ post → post.length < n →
    L07_TyMore_L3 F l a b o n (pre.length : Int) = some true
  | [], pre, 0, e, hn => by simp at hn
  | [], pre, n + 1, e, hn => by
    rw [L07_TyMore_L3]
    have : decide ((pre.length : Int) < (l.length : Int)) = false := by rw [e]; simp
    rw [this]; simp [L07_awake]
  | t :: post, pre, 0, e, hn => by simp at hn
  | t :: post, pre, n + 1, e, hn => by
    rw [L07_TyMore_L3]
    have : decide ((pre.length : Int) < (l.length : Int)) = true := by rw [e]; simp; omega
    have hlt : pre.length < l.length := by rw [e]; simp
    have ha : a[pre.length]? = some (a.getD pre.length false) := by rw [List.getD_eq_getElem?_getD, List.getElem?_eq_getElem (by omega)]; rfl
    have hb : b[pre.length]? = some (b.getD pre.length false) := by rw [List.getD_eq_getElem?_getD, List.getElem?_eq_getElem (by omega)]; rfl
    rw [this]
    simp only [cond_true, joinM, idx_nat, ha, hb, Option.bind_some]
    rw [wrapS _ (by have := big hl; rw [e] at this; simp at this; omega)]
    have ih := more_last (F := F) hl hla hlb h post (pre ++ [t]) n (by simp [e]) (by simp at hn; omega)
    have hlen : ((pre.length + 1 : Nat) : Int) = ((pre ++ [t]).length : Int) := by simp
    rw [hlen, ih]
    cases o with
    | true => rw [h rfl _ hlt]; simp
    | false => rfl

theorem sm_of : ∀ (t : api_Type), W40 t → smT t = true
  | ⟨k, n, ps⟩, hw => by
    obtain ⟨_, _, hl, hp⟩ := (W40_iff _).1 hw
    rw [smT, Bool.and_eq_true, decide_eq_true_eq]
    refine ⟨hl, ?_⟩
    have key : ∀ ts : List api_Type, (∀ t ∈ ts, smT t = true) → smTs ts = true := by
      intro ts
      induction ts with
      | nil => intro _; rw [smTs]
      | cons t ts ih => intro h; rw [smTs, Bool.and_eq_true]; exact ⟨h t (by simp), ih fun x hx => h x (by simp [hx])⟩
    exact key ps fun t ht => sm_of t (hp t ht)
termination_by t => t
decreasing_by
  have := List.sizeOf_lt_of_mem ht
  simp only [api_Type.mk.sizeOf_spec]
  omega
theorem smTs_of : ∀ ts : List api_Type, (∀ t ∈ ts, smT t = true) → smTs ts = true
  | [], _ => by rw [smTs]
  | t :: ts, h => by rw [smTs, Bool.and_eq_true]; exact ⟨h t (by simp), smTs_of ts fun x hx => h x (by simp [hx])⟩
theorem okL_of {l : List api_Data} (hw : ∀ d ∈ l, W32 d) (hl : l.length ≤ 1000) : okL l = true := by
  simp only [okL, Bool.and_eq_true, decide_eq_true_eq, List.all_eq_true]
  refine ⟨hl, fun d hd => ?_⟩
  have h1 := (hw d hd).2.2
  simp only [okD, Bool.and_eq_true, decide_eq_true_eq, List.all_eq_true]
  refine ⟨le_reach h1.1, fun c hc => ?_⟩
  have h2 := (h1.2 c hc).2
  simp only [okC, Bool.and_eq_true, decide_eq_true_eq]
  exact ⟨h2.1, smTs_of _ fun t ht => sm_of t (h2.2 t ht)⟩

theorem at1_atN (l : List api_Data) (n : ByteArray) : at1 (hasName n) l = match atN l n with | some i => (i : Int) | none => -1 := rfl
theorem atN_append {l more : List api_Data} {n : ByteArray} {i : Nat} (h : atN l n = some i) : atN (l ++ more) n = some i := by
  unfold atN at h ⊢
  rw [List.findIdx?_append, h]; rfl
mutual
theorem fills_app {l more : List api_Data} {S : Nat → Bool} : ∀ t : api_Type, knownT l t = true → fillsT (l ++ more) S t = fillsT l S t
  | ⟨k, n, ps⟩, h => by
    rw [knownT, Bool.and_eq_true] at h
    rw [fillsT, fillsT, fillsAll_app ps h.2]
    by_cases h2 : k = 2
    · subst h2
      have : hasN (l ++ more) S n = hasN l S n := by
        have h1 := h.1
        rw [at1_atN] at h1
        cases ha : atN l n with
        | none => rw [ha] at h1; simp at h1
        | some i => simp only [hasN, ha, atN_append ha]
      simp [this]
    · simp [h2]
theorem fillsAll_app {l more : List api_Data} {S : Nat → Bool} : ∀ ts : List api_Type, knownTs l ts = true → fillsAll (l ++ more) S ts = fillsAll l S ts
  | [], _ => by rw [fillsAll, fillsAll]
  | t :: ts, h => by
    rw [knownTs, Bool.and_eq_true] at h
    rw [fillsAll, fillsAll, fills_app t h.1, fillsAll_app ts h.2]
end
mutual
theorem fills_has {l : List api_Data} {A B : Nat → Bool} (h : ∀ n, hasN l A n = true → hasN l B n = true) : ∀ t : api_Type, fillsT l A t = true → fillsT l B t = true
  | ⟨k, n, ps⟩, ht => by
    rw [fillsT] at ht ⊢
    split
    · rfl
    · rename_i h0
      rw [if_neg h0] at ht
      split
      · rfl
      · rename_i h1
        rw [if_neg h1] at ht
        split
        · rename_i h2; rw [if_pos h2] at ht; exact h _ ht
        · rename_i h2; rw [if_neg h2] at ht; exact fillsAll_has h ps ht
theorem fillsAll_has {l : List api_Data} {A B : Nat → Bool} (h : ∀ n, hasN l A n = true → hasN l B n = true) : ∀ ts : List api_Type, fillsAll l A ts = true → fillsAll l B ts = true
  | [], _ => by rw [fillsAll]
  | t :: ts, ht => by
    rw [fillsAll, Bool.and_eq_true] at ht ⊢
    exact ⟨fills_has h t ht.1, fillsAll_has h ts ht.2⟩
end
theorem byCon_app {l more : List api_Data} {S : Nat → Bool} {d : api_Data} (h : knowD l d = true) : byCon (l ++ more) S d = byCon l S d := by
  unfold byCon
  unfold knowD at h
  rw [List.all_eq_true] at h
  rw [Bool.eq_iff_iff, List.any_eq_true, List.any_eq_true]
  have key : ∀ c ∈ d.Cons, fillsAll (l ++ more) S c.Fields = fillsAll l S c.Fields := fun c hc => fillsAll_app _ (by rw [knownTs_all]; exact h c hc)
  exact ⟨fun ⟨c, h1, h2⟩ => ⟨c, h1, by rw [← key c h1]; exact h2⟩, fun ⟨c, h1, h2⟩ => ⟨c, h1, by rw [key c h1]; exact h2⟩⟩
/-- What has values ahead has so with more behind. -/
theorem full_app {l more : List api_Data} (h : ∀ d ∈ l, knowD l d = true) {i : Nat} (hi : i < l.length) : (fullP l).getD i false = (fullP (l ++ more)).getD i false := by
  have hget : ∀ {j : Nat} {d : api_Data}, l[j]? = some d → (l ++ more)[j]? = some d := fun {j d} hj => by
    rw [List.getElem?_append_left (List.getElem?_eq_some_iff.1 hj).1]; exact hj
  rw [Bool.eq_iff_iff]
  constructor
  · refine fullP_least l (ofL (fullP (l ++ more))) (fun j d hj hb => ?_) i
    exact fullP_closed (l ++ more) (hget hj) (by rw [byCon_app (h d (List.mem_of_getElem? hj))]; exact hb)
  · intro hq
    have := fullP_least (l ++ more) (fun j => decide (l.length ≤ j) || (fullP l).getD j false) (fun j d hj hb => ?_) i hq
    · simpa [show ¬ l.length ≤ i by omega] using this
    · rcases Nat.lt_or_ge j l.length with h1 | h1
      · rw [List.getElem?_append_left h1] at hj
        rw [byCon_app (h d (List.mem_of_getElem? hj))] at hb
        have hk := h d (List.mem_of_getElem? hj)
        rw [Bool.or_eq_true]
        refine .inr (fullP_closed l hj ?_)
        have key : ∀ (S S' : Nat → Bool), (∀ q, q < l.length → S q = S' q) → byCon l S d = byCon l S' d := by
          intro S S' hS
          have ht : ∀ t : api_Type, fillsT l S t = fillsT l S' t := by
            have hn : ∀ n, hasN l S n = hasN l S' n := fun n => by
              unfold hasN
              cases ha : atN l n with
              | none => rfl
              | some q => exact hS q (atN_lt ha)
            intro t
            have k1 : ∀ (A B : Nat → Bool), (∀ n, hasN l A n = true → hasN l B n = true) → ∀ t : api_Type, fillsT l A t = true → fillsT l B t = true := fun A B hAB => fills_has hAB
            rw [Bool.eq_iff_iff]
            exact ⟨k1 S S' (fun n h => by rw [← hn]; exact h) t, k1 S' S (fun n h => by rw [hn]; exact h) t⟩
          have ha : ∀ ts : List api_Type, fillsAll l S ts = fillsAll l S' ts := fun ts => by
            rw [fillsAll_eq, fillsAll_eq, show fillsT l S = fillsT l S' from funext ht]
          unfold byCon
          rw [show (fun c : api_Con => fillsAll l S c.Fields) = fun c => fillsAll l S' c.Fields from funext fun c => ha _]
        rw [← hb]
        exact key _ _ fun q hq => by simp [ofL, show ¬ l.length ≤ q by omega]
      · simp [h1]

theorem bare_full {l : List api_Data} {i : Nat} {d : api_Data} (h : l[i]? = some d) : (bareD d && !(fullP l).getD i false) = false := by
  cases hb : bareD d with
  | false => rfl
  | true =>
    unfold bareD at hb
    rw [List.any_eq_true] at hb
    obtain ⟨c, h1, h2⟩ := hb
    have h0 : c.Fields = [] := by
      simp only [beq_iff_eq] at h2
      exact List.eq_nil_of_length_eq_zero (by omega)
    rw [fullP_closed l h (by unfold byCon; rw [List.any_eq_true]; exact ⟨c, h1, by rw [h0, fillsAll]⟩)]
    rfl
theorem own_full {l : List api_Data} {i : Nat} {d : api_Data} (h : l[i]? = some d) (ho : ownD d = true) (ha : (fullP l).getD i false = true) : at1 (hasName d.Name) l ≠ (i : Int) := by
  intro he
  rw [at1_atN] at he
  have hat : atN l d.Name = some i := by
    cases hq : atN l d.Name with
    | none => rw [hq] at he; simp at he
    | some j => rw [hq] at he; simp only at he; rw [show j = i by omega]
  have := fullP_least l (fun j => !(j == i)) (fun j d' hj hb => ?_) i ha
  · simp at this
  · by_cases e : j = i
    · subst e
      rw [h] at hj; cases hj
      unfold byCon at hb
      unfold ownD at ho
      rw [List.any_eq_true] at hb
      rw [List.all_eq_true] at ho
      obtain ⟨c, h1, h2⟩ := hb
      have h3 := ho c h1
      rw [List.any_eq_true] at h3
      obtain ⟨f, h4, h5⟩ := h3
      rw [fillsAll_eq, List.all_eq_true] at h2
      have h6 := h2 f h4
      unfold ownF at h5
      simp only [Bool.and_eq_true, beq_iff_eq] at h5
      rw [fillsT_eq, h5.1] at h6
      have hn : atN l f.Name = some j := by unfold atN at hat ⊢; rw [h5.2]; exact hat
      simp [hasN, hn] at h6
    · simp [e]

theorem holds_TyMore (l more : List api_Data) (w0 : W22 l) (w1 : W22 more) : ∃ F, L07_TyMore F l more = some true := by
  by_cases hll : l.length ≤ 60 ∧ more.length ≤ 60
  · obtain ⟨hl, hm⟩ := hll
    have hmx : maxLen = 9223372036854775807 := rfl
    have k1 : ∀ d ∈ l, Evt fun F => d.Cons.length < F ∧ (∀ c ∈ d.Cons, c.Fields.length < F ∧ ∀ f ∈ c.Fields, ty_Known F l f = some (knownT l f)) := fun d hd => by
      have wd := (w0.2 d hd).2.2
      refine (Evt.ge (d.Cons.length + 1)).and (Evt.all fun c hc => ?_) |>.mono fun F ⟨g1, g2⟩ => ⟨by omega, g2⟩
      have wc := (wd.2 c hc).2
      refine (Evt.ge (c.Fields.length + 1)).and (Evt.all fun f hf => (known_ok l (by omega) f (wc.2 f hf)).mono fun F h => h.1) |>.mono fun F ⟨g1, g2⟩ => ⟨by omega, g2⟩
    refine Evt.ex (((light_ev w0).and (light_ev w1)).and ((Evt.all k1).and (Evt.ge 200)) |>.mono ?_)
    rintro F ⟨⟨⟨b0, hb0, _⟩, ⟨b1, hb1, _⟩⟩, hk, hF⟩
    have hla := fullP_len l
    have hlb := fullP_len (l ++ more)
    have o1 : okL l = true := okL_of w0.2 (by omega)
    have o2 : okL (l ++ more) = true := okL_of (fun d hd => (List.mem_append.1 hd).elim (w0.2 d) (w1.2 d)) (by rw [List.length_append]; omega)
    have a1 : appM 56 ([] : List api_Data) l = some l := by unfold appM; rw [if_pos (by have : roomMax = 2 ^ 46 := rfl; simp; omega)]; rfl
    have a2 : appM 56 l more = some (l ++ more) := by unfold appM; rw [if_pos (by have : roomMax = 2 ^ 46 := rfl; omega)]
    have hmain : ((appM 56 ([] : List api_Data) l).bind fun x7 => (appM 56 x7 more).bind fun x9 => (ty_Full F l).bind fun x11 => (ty_Full F x9).bind fun x12 =>
        bif (((x11.length : Int) != (l.length : Int)) || ((x12.length : Int) != (x9.length : Int))) then (some false)
        else (joinM (fun (v14 : Bool) => L07_TyMore_L3 F l x11 x12 v14 F 0) fun K3 => L07_TyMore_L0 F l x11 K3 F true 0)) = some true := by
      rw [a1]
      simp only [Option.bind_some]
      rw [a2]
      simp only [Option.bind_some, ty_Full, o1, o2, cond_true]
      rw [hla, hlb]
      simp only [bne_self_eq_false, Bool.or_self, cond_false, joinM]
      have h0 := more_loop (F := F) (l := l) (a := fullP l) (K := fun v14 => L07_TyMore_L3 F l (fullP l) (fullP (l ++ more)) v14 F 0) (by omega) (by omega) hla (fun d hd => ⟨le_reach (w0.2 d hd).2.2.1, (hk d hd).1, fun c hc => ⟨((w0.2 d hd).2.2.2 c hc).2.1, ((hk d hd).2 c hc).1⟩, fun c hc f hf => ((hk d hd).2 c hc).2 f hf⟩)
        (fun i d hi => ⟨bare_full hi, fun ho ha => own_full hi ho ha⟩) l [] F true rfl (by omega)
      simp only [show (([] : List api_Data).length : Int) = 0 from rfl] at h0
      rw [h0]
      have h1 := more_last (F := F) (l := l) (a := fullP l) (b := fullP (l ++ more)) (o := true && l.all (knowD l)) (by omega) hla (by rw [hlb, List.length_append]; omega) (fun ho i hi => by
        rw [Bool.true_and, List.all_eq_true] at ho
        exact full_app ho hi) l [] F rfl (by omega)
      simpa using h1
    rw [L07_TyMore, hb0]
    simp only [Option.bind_some]
    rw [hb1]
    simp only [joinM, Option.bind_some] at hmain ⊢
    rw [hmain]
    cases b0 <;> cases b1 <;> rfl
  · refine Evt.ex ((light_ev w0).and (light_ev w1) |>.mono ?_)
    rintro F ⟨⟨b0, hb0, e0⟩, ⟨b1, hb1, e1⟩⟩
    rw [L07_TyMore, hb0]
    simp only [Option.bind_some]
    rw [hb1]
    cases b0 with
    | false => rfl
    | true =>
      cases b1 with
      | false => rfl
      | true => exact absurd ⟨e0 rfl, e1 rfl⟩ hll
end Go.Proofs.Ytappiofmkoelnaa.M
