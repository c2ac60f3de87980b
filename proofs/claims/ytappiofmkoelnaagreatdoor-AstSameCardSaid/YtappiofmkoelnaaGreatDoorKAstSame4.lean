/-
  For AstSame: texts of the road to it, 5 of 16.
-/
import Derived.Test.YtappiofmkoelnaaGreatDoorKAstSame3
import Derived.Calls
section
namespace Go.Proofs.YtappiofmkoelnaaGreatDoorW.Ah
set_option linter.unusedVariables false
set_option linter.unusedSimpArgs false
mutual
def free : AV → Bool
 | .sc _ => true
 | .own .. => false
 | .osl .. => false
 | .sh cs => freeL cs
 | .ssl cs _ _ => freeL cs
 | .esl _ => true
 | .agg cs => freeL cs
 | .tup cs => freeL cs
 | .fn _ a b => freeL a && freeL b
 | .omap _ => false
 | .yld _ => false
 | .any => true
def freeL : List AV → Bool
 | [] => true
 | a :: as' => free a && freeL as'
end
mutual
def flat : AV → Bool
 | .sc _ => true
 | .esl _ => true
 | .agg cs => flatL cs
 | .tup cs => flatL cs
 | .any => true
 | _ => false
def flatL : List AV → Bool
 | [] => true
 | a :: as' => flat a && flatL as'
end
mutual
theorem RepV.lift {E F : Env} (hw : F.w.heap = E.w.heap) (hs : ∀ b, E.shared b → F.shared b) : ∀ (a : AV) (v : Value), free a = true → RepV E a v → RepV F a v
 | .sc _, _, _, hr => by simpa [RepV] using hr
 | .own .., _, h, _ => by simp [free] at h
 | .osl .., _, h, _ => by simp [free] at h
 | .sh cs, u, h, hr => by
  simp only [RepV] at hr ⊢
  simp only [free] at h
  obtain ⟨b, o, cells, ty, fz, e, h1, h2, h3⟩ := hr
  exact ⟨b, o, cells, ty, fz, e, hs b h1, by rw [hw, h2], RepL.lift hw hs _ _ h h3⟩
 | .ssl cs n full, u, h, hr => by
  simp only [RepV] at hr ⊢
  simp only [free] at h
  rcases hr with ⟨b, o, cells, ty, fz, cap, e, h0, h0', h1, h2, h3⟩ | hr
  ·exact .inl ⟨b, o, cells, ty, fz, cap, e, h0, h0', hs b h1, by rw [hw, h2], RepL.lift hw hs _ _ h h3⟩
  ·exact .inr hr
 | .esl _, _, _, hr => by simpa [RepV] using hr
 | .agg cs, u, h, hr => by
  simp only [RepV] at hr ⊢
  simp only [free] at h
  obtain ⟨a, e, h1, h2⟩ := hr
  exact ⟨a, e, h1, RepL.lift hw hs _ _ h h2⟩
 | .tup cs, u, h, hr => by
  simp only [RepV] at hr ⊢
  simp only [free] at h
  obtain ⟨a, e, h1, h2⟩ := hr
  exact ⟨a, e, h1, RepL.lift hw hs _ _ h h2⟩
 | .fn f x y, u, h, hr => by
  simp only [RepV] at hr ⊢
  simp only [free, Bool.and_eq_true] at h
  obtain ⟨a, b, e, h1, h2, h3, h4⟩ := hr
  exact ⟨a, b, e, h1, RepL.lift hw hs _ _ h.1 h2, h3, RepL.lift hw hs _ _ h.2 h4⟩
 | .omap _, _, h, _ => by simp [free] at h
 | .yld _, _, h, _ => by simp [free] at h
 | .any, _, _, _ => by simp [RepV]
theorem RepL.lift {E F : Env} (hw : F.w.heap = E.w.heap) (hs : ∀ b, E.shared b → F.shared b) : ∀ (as' : List AV) (vs : List Value), freeL as' = true → RepL E as' vs → RepL F as' vs
 | [], _, _, _ => by simp [RepL]
 | _ :: _, [], _, hr => by simp [RepL] at hr
 | a :: as', v :: vs, h, hr => by
  simp only [RepL] at hr ⊢
  simp only [freeL, Bool.and_eq_true] at h
  exact ⟨RepV.lift hw hs a v h.1 hr.1, RepL.lift hw hs as' vs h.2 hr.2⟩
end
mutual
theorem RepV.flat {E F : Env} : ∀ (a : AV) (v : Value), flat a = true → RepV E a v → RepV F a v
 | .sc _, _, _, hr => by simpa [RepV] using hr
 | .own .., _, h, _ => by simp [Ah.flat] at h
 | .osl .., _, h, _ => by simp [Ah.flat] at h
 | .sh cs, u, h, hr => by simp [Ah.flat] at h
 | .ssl cs n full, u, h, hr => by simp [Ah.flat] at h
 | .esl _, _, _, hr => by simpa [RepV] using hr
 | .agg cs, u, h, hr => by
  simp only [RepV] at hr ⊢
  simp only [Ah.flat] at h
  obtain ⟨a, e, h1, h2⟩ := hr
  exact ⟨a, e, h1, RepL.flat _ _ h h2⟩
 | .tup cs, u, h, hr => by
  simp only [RepV] at hr ⊢
  simp only [Ah.flat] at h
  obtain ⟨a, e, h1, h2⟩ := hr
  exact ⟨a, e, h1, RepL.flat _ _ h h2⟩
 | .fn f x y, u, h, hr => by simp [Ah.flat] at h
 | .omap _, _, h, _ => by simp [Ah.flat] at h
 | .yld _, _, h, _ => by simp [Ah.flat] at h
 | .any, _, _, _ => by simp [RepV]
theorem RepL.flat {E F : Env} : ∀ (as' : List AV) (vs : List Value), flatL as' = true → RepL E as' vs → RepL F as' vs
 | [], _, _, _ => by simp [RepL]
 | _ :: _, [], _, hr => by simp [RepL] at hr
 | a :: as', v :: vs, h, hr => by
  simp only [RepL] at hr ⊢
  simp only [Ah.flatL, Bool.and_eq_true] at h
  exact ⟨RepV.flat a v h.1 hr.1, RepL.flat as' vs h.2 hr.2⟩
end
mutual
inductive View (T : Tab) (H : Nat → Option Blk) (ids : List Nat) : AV → AV → Prop
 | free {a : AV} : free a = true → View T H ids a a
 | own {i o : Nat} {cs cs' : List AV} {ty : Nat} : i ∈ ids → H i = some (.cells cs ty) → ViewL T H ids (cs.drop o) cs' → View T H ids (.own i o) (.sh cs')
 | osl {i o n : Nat} {c : Option Nat} {cs cs' : List AV} {ty : Nat} (q : Nat) : i ∈ ids → H i = some (.cells cs ty) → ViewL T H ids ((cs.drop o).take q) cs' → View T H ids (.osl i o n c) (.ssl cs' n (c == some n))
 | oslF {i o n : Nat} {c : Option Nat} {cs cs' : List AV} {ty : Nat} (q : Nat) : i ∈ ids → H i = some (.cells cs ty) → ViewL T H ids ((cs.drop o).take q) cs' → View T H ids (.osl i o n c) (.ssl cs' n false)
 | nilS : View T H ids (.sc (.slice none 0 0)) (.ssl [] 0 false)
 | eslS {f : Bool} : View T H ids (.esl f) (.ssl [] 0 false)
 | sslF {cs : List AV} {n : Nat} {f : Bool} : freeL cs = true → View T H ids (.ssl cs n f) (.ssl cs n false)
 | agg {cs cs' : List AV} : ViewL T H ids cs cs' → View T H ids (.agg cs) (.agg cs')
 | tup {cs cs' : List AV} : ViewL T H ids cs cs' → View T H ids (.tup cs) (.tup cs')
 | fn {f : Fn} {x x' y y' : List AV} : ViewL T H ids x x' → ViewL T H ids y y' → View T H ids (.fn f x y) (.fn f x' y')
inductive ViewL (T : Tab) (H : Nat → Option Blk) (ids : List Nat) : List AV → List AV → Prop
 | free {as' : List AV} : freeL as' = true → ViewL T H ids as' as'
 | nil : ViewL T H ids [] []
 | cons {a a' : AV} {as' as'' : List AV} : View T H ids a a' → ViewL T H ids as' as'' → ViewL T H ids (a :: as') (a' :: as'')
end
def without {α : Type} (f : Nat → Option α) (ids : List Nat) : Nat → Option α := fun i => if i ∈ ids then none else f i
theorem ViewL.length {T : Tab} {H : Nat → Option Blk} {ids : List Nat} : ∀ {as' bs : List AV}, ViewL T H ids as' bs → bs.length = as'.length
 | _, _, .free _ => rfl
 | _, _, .nil => rfl
 | _, _, .cons _ h => by simp [ViewL.length h]
mutual
theorem View.rep {P : Program} {T : Tab} {E F : Env} {H : Nat → Option Blk} {ids : List Nat} (hH : RepH P E H) (hw : F.w.heap = E.w.heap) (hs : ∀ b, E.shared b → F.shared b) (hi : ∀ i l, i ∈ ids → E.m i = some l → F.shared l.b) :
  ∀ {a a' : AV}, View T H ids a a' → ∀ v, RepV E a v → RepV F a' v
 | _, _, .free h, v, hr => RepV.lift hw hs _ _ h hr
 | _, _, .own (i := i) h1 h2 h3, v, hr => by
  obtain ⟨l, hl, cells, fz, info, q1, q2, q3, q4, q5, q6⟩ := hH.own i _ h2
  simp only [RepV] at hr ⊢
  obtain ⟨_, b, rfl, hb⟩ := hr
  rw [hb l hl]
  exact ⟨l.b, _, cells, _, fz, rfl, hi i l h1 hl, by rw [hw, q1], ViewL.rep hH hw hs hi h3 _ (q2.drop _)⟩
 | _, _, .osl (i := i) (c := c) q h1 h2 h3, v, hr => by
  obtain ⟨l, hl, cells, fz, info, q1, q2, q3, q4, q5, q6⟩ := hH.own i _ h2
  simp only [RepV] at hr ⊢
  obtain ⟨_, b, cap, rfl, hcap, hc, hb⟩ := hr
  rw [(hb l hl).1]
  exact .inl ⟨l.b, _, cells, _, fz, cap, rfl, hcap, fun hf => by simp only [beq_iff_eq] at hf; exact hc _ hf, hi i l h1 hl, by rw [hw, q1], ViewL.rep hH hw hs hi h3 _ ((q2.drop _).of_take _)⟩
 | _, _, .oslF (i := i) q h1 h2 h3, v, hr => by
  obtain ⟨l, hl, cells, fz, info, q1, q2, q3, q4, q5, q6⟩ := hH.own i _ h2
  simp only [RepV] at hr ⊢
  obtain ⟨_, b, cap, rfl, hcap, hc, hb⟩ := hr
  rw [(hb l hl).1]
  exact .inl ⟨l.b, _, cells, _, fz, cap, rfl, hcap, (fun hf => by cases hf), hi i l h1 hl, by rw [hw, q1], ViewL.rep hH hw hs hi h3 _ ((q2.drop _).of_take _)⟩
 | _, _, .nilS, v, hr => by
  simp only [RepV] at hr ⊢
  exact .inr ⟨trivial, trivial, none, 0, hr, (fun hf => by cases hf), fun _ => rfl⟩
 | _, _, .eslS, v, hr => by
  simp only [RepV] at hr ⊢
  obtain ⟨a, cap, e, _⟩ := hr
  exact .inr ⟨trivial, trivial, some a, cap, e, (fun hf => by cases hf), fun hf => by cases hf⟩
 | _, _, .sslF (cs := cs) (n := n) (f := f) h, v, hr => by
  have h2 := RepV.lift hw hs (.ssl cs n f) v (by simpa [free] using h) hr
  simp only [RepV] at h2 ⊢
  rcases h2 with ⟨b, o, cells, ty, fz, cap, e, g1, g2, g3⟩ | ⟨e1, e2, a, cap, e, _, e3⟩
  ·exact .inl ⟨b, o, cells, ty, fz, cap, e, g1, (fun hf => by cases hf), g3⟩
  ·exact .inr ⟨e1, e2, a, cap, e, (fun hf => by cases hf), e3⟩
 | _, _, .agg h, v, hr => by
  simp only [RepV] at hr ⊢
  obtain ⟨a, e, h1, h2⟩ := hr
  exact ⟨a, e, by rw [h.length, h1], ViewL.rep hH hw hs hi h _ h2⟩
 | _, _, .tup h, v, hr => by
  simp only [RepV] at hr ⊢
  obtain ⟨a, e, h1, h2⟩ := hr
  exact ⟨a, e, by rw [h.length, h1], ViewL.rep hH hw hs hi h _ h2⟩
 | _, _, .fn h g, v, hr => by
  simp only [RepV] at hr ⊢
  obtain ⟨a, b, e, h1, h2, h3, h4⟩ := hr
  exact ⟨a, b, e, by rw [h.length, h1], ViewL.rep hH hw hs hi h _ h2, by rw [g.length, h3], ViewL.rep hH hw hs hi g _ h4⟩
theorem ViewL.rep {P : Program} {T : Tab} {E F : Env} {H : Nat → Option Blk} {ids : List Nat} (hH : RepH P E H) (hw : F.w.heap = E.w.heap) (hs : ∀ b, E.shared b → F.shared b) (hi : ∀ i l, i ∈ ids → E.m i = some l → F.shared l.b) :
  ∀ {as' as'' : List AV}, ViewL T H ids as' as'' → ∀ vs, RepL E as' vs → RepL F as'' vs
 | _, _, .free h, vs, hr => RepL.lift hw hs _ _ h hr
 | _, _, .nil, vs, _ => by simp [RepL]
 | _, _, .cons h1 h2, vs, hr => by
  cases vs with
  | nil => simp [RepL] at hr
  | cons v vs =>
   simp only [RepL] at hr ⊢
   exact ⟨View.rep hH hw hs hi h1 v hr.1, ViewL.rep hH hw hs hi h2 vs hr.2⟩
end
def Vw (T : Tab) (H : Nat → Option Blk) (ids : List Nat) (a a' : AV) : Prop := a' = a ∨ a' = .any ∨ View T H ids a a'
structure Weak (T : Tab) (s s' : St) (ids : List Nat) : Prop where
 t : ∀ i, Vw T s.H ids (s.t i) (s'.t i)
 H : ∀ i, s'.H i = none ∨ (i ∉ ids ∧ (s'.H i = s.H i ∨ ∃ cs cs' ty, s.H i = some (.cells cs ty) ∧ s'.H i = some (.cells cs' ty) ∧ cs'.length ≤ cs.length ∧ ∀ (j : Nat) a', cs'[j]? = some a' → ∃ a, cs[j]? = some a ∧ Vw T s.H ids a a'))
 n : s.n ≤ s'.n
theorem weak_rep {P : Program} {T : Tab} {E : Env} {s s' : St} {ids : List Nat} (hw : Weak T s s' ids) (hH : RepH P E s.H) (hX : ∀ b, E.X b → b < E.w.heap.size) (hN : E.N = s.n) :
  ∃ F, Ext E F ∧ F.w = E.w ∧ F.X = E.X ∧ RepH P F s'.H ∧ F.N = s'.n ∧ (∀ k a, RepT E k s.t a → RepT F k s'.t a) ∧ ∀ a a' v, Vw T s.H ids a a' → RepV E a v → RepV F a' v := by
 let F : Env := ⟨E.X, s'.n, fun i => match s'.H i with | none => none | some _ => E.m i, E.w⟩
 have hF : ∀ i l, F.m i = some l → E.m i = some l ∧ ∃ blk, s'.H i = some blk := by
  intro i l h
  simp only [F] at h
  split at h
  ·cases h
  ·rename_i b hb; exact ⟨h, b, hb⟩
 have hx : Ext E F := ⟨rfl, by rw [hN]; exact hw.n, rfl, rfl, rfl, Nat.le_refl _, fun _ _ _ => rfl, fun i l _ h => (hF i l h).1, fun i l h => .inr ⟨i, l, (hF i l h).1, rfl⟩, fun _ r h => ⟨r, h⟩⟩
 have hsh : ∀ b, E.shared b → F.shared b := fun b h => ⟨h.1, fun i l hl => h.2 i l (hF i l hl).1⟩
 have hids : ∀ i l, i ∈ ids → E.m i = some l → F.shared l.b := by
  intro i l hi hl
  refine ⟨(hH.lt i l hl).2.2.1, fun j l' hj e => ?_⟩
  obtain ⟨h1, blk, h2⟩ := hF j l' hj
  have := hH.inj j i l' l h1 hl e
  subst this
  rcases hw.H j with h | ⟨h, _⟩
  ·rw [h] at h2; cases h2
  ·exact h hi
 have hv : ∀ a a' v, Vw T s.H ids a a' → RepV E a v → RepV F a' v := by
  intro a a' v h hr
  rcases h with rfl | rfl | h
  ·exact RepV.ext hx _ _ hr
  ·simp [RepV]
  ·exact View.rep (F := F) hH rfl hsh hids h v hr
 refine ⟨F, hx, rfl, rfl, ⟨fun i blk hb => ?_, fun i l hl => ?_, fun i j l l' hl hl' e => hH.inj i j l l' (hF i l hl).1 (hF j l' hl').1 e, hH.glob.ext hx⟩, rfl, fun k a hr => ⟨hr.size, fun i => hv _ _ _ (hw.t i) (hr.at_ i)⟩, hv⟩
 ·rcases hw.H i with h | ⟨_, h | ⟨cs, cs', ty, h1, h2, h3, h4⟩⟩
  ·rw [h] at hb; cases hb
  ·rw [h] at hb
   obtain ⟨l, hl, hr⟩ := hH.own i blk hb
   exact ⟨l, by simp only [F]; rw [h, hb]; exact hl, RepB.ext hx rfl hr⟩
  ·rw [h2] at hb; cases hb
   obtain ⟨l, hl, cells, fz, info, q1, q2, q3, q4, q5, q6⟩ := hH.own i _ h1
   refine ⟨l, by simp only [F]; rw [h2]; exact hl, cells, fz, info, q1, ?_, q3, q4, q5, q6⟩
   rw [RepL.iff] at q2 ⊢
   refine ⟨Nat.le_trans h3 q2.1, fun j a' ha' => ?_⟩
   obtain ⟨a, ha, hva⟩ := h4 j a' ha'
   obtain ⟨v, hv', hrv⟩ := q2.2 j a ha
   exact ⟨v, hv', hv _ _ _ hva hrv⟩
 ·obtain ⟨h1, blk, h2⟩ := hF i l hl
  obtain ⟨q1, q2, q3, q4⟩ := hH.lt i l h1
  exact ⟨by have := hw.n; simp only [F]; omega, q2, q3, blk, h2⟩
def Xb (E : Env) : Prop := ∀ b, E.X b → b < E.w.heap.size
def Ret (P : Program) (E : Env) (r : AV) (H' : Nat → Option Blk) (n' : Nat) (e : Ending) (w' : World) : Prop :=
 ∃ E' v, e = .returned v ∧ E'.w = w' ∧ Ext E E' ∧ RepH P E' H' ∧ Xb E' ∧ E'.N = n' ∧ RepV E' r v
def RunOk (P : Program) (f : FuncId) (args : List AV) (H : Nat → Option Blk) (n : Nat) (r : AV) (H' : Nat → Option Blk) (n' : Nat) : Prop :=
 ∀ (E : Env) (vs : Array Value), RepH P E H → Xb E → E.N = n → RepL E args vs.toList → args.length = vs.size → Calls P f vs E.w (Ret P E r H' n')
end Go.Proofs.YtappiofmkoelnaaGreatDoorW.Ah
end
