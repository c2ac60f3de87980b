/-
  The walker: what was reached so far, and one more.
-/
import Derived.Test.YtfflojbgikfbmaaGA
import Derived.Test.YtfflojbgikfbmaaAhO
import Derived.Test.YtfflojbgikfbmaaAhC
import Derived.Test.YtfflojbgikfbmaaAhR
import Derived.Test.YtfflojbgikfbmaaGrW0
import Derived.Test.YtfflojbgikfbmaaGrW1
import Derived.Test.YtfflojbgikfbmaaGrW2
namespace Go.Proofs.Ytfflojbgikfbmaa.Gra
open Go.Proofs.YtfflojbgikfbmaaW.Ah
open M (api_Node api_Edge c3 c31 c37 Seen okB stepE reachGo findN)
set_option maxRecDepth 4000
set_option linter.unusedVariables false
set_option linter.unusedSimpArgs false
attribute [local simp] T.t2 T.t3 T.t4 T.t5 T.t22 T.t23 T.t26 T.t31 T.t34 T.t35 T.t37 T.t119 T.t138 T.t198 T.t200 Op.maxDepth List.range List.range.loop
attribute [-simp] appendAV cellsOf cellOk partOk
attribute [local simp] cellsOf_sc cellOk_sc partOk_sc cellsOf_own cellOk_own partOk_own cellsOf_osl cellOk_osl partOk_osl cellsOf_sh cellOk_sh partOk_sh cellsOf_ssl cellOk_ssl partOk_ssl cellsOf_esl cellOk_esl partOk_esl cellsOf_fn cellOk_fn partOk_fn cellsOf_omap cellOk_omap partOk_omap cellsOf_agg partOk_agg cellsOf_slv cellOk_slv partOk_slv

/-- Classes of a region, in which blocks are named by places of a list. -/
def Cls.ren (L : List Nat) (b0 : Nat) : Cls → Cls
  | .rd R => .rd (R.map fun i => L.getD i 0)
  | .mem S _ => .mem (S.map fun i => L.getD i 0) b0
def Cls.small (k : Nat) : Cls → Bool
  | .rd R => R.all fun i => decide (i < k)
  | .mem S _ => S.all fun i => decide (i < k)

theorem getD_inj {L : List Nat} (hL : L.Nodup) {i j : Nat} (hi : i < L.length) (hj : j < L.length) (h : L.getD i 0 = L.getD j 0) : i = j := by
  rw [List.getD_eq_getElem?_getD, List.getD_eq_getElem?_getD, List.getElem?_eq_getElem hi, List.getElem?_eq_getElem hj] at h
  simp only [Option.getD_some] at h
  rcases Nat.lt_trichotomy i j with g | g | g
  · exact absurd h (List.pairwise_iff_getElem.1 hL i j hi hj g)
  · exact g
  · exact absurd h.symm (List.pairwise_iff_getElem.1 hL j i hj hi g)

/-- Other names of blocks, each another, hinder no order. -/
theorem drawOk2_ren {G : Array Oper} {q : Option Nat} (L : List Nat) (hL : L.Nodup) (b0 : Nat) (cl : List Cls) (hs : cl.all (Cls.small L.length) = true) (hd : drawOk2 G cl q = true) : drawOk2 G (cl.map (Cls.ren L b0)) q = true := by
  have dis : ∀ (R S : List Nat), (R.all fun i => decide (i < L.length)) = true → (S.all fun i => decide (i < L.length)) = true → (R.all fun j => !S.contains j) = true → ((R.map fun i => L.getD i 0).all fun j => !(S.map fun i => L.getD i 0).contains j) = true := by
    intro R S hR hS h
    rw [List.all_eq_true] at h hR hS ⊢
    intro x hx
    obtain ⟨r, hr, rfl⟩ := List.mem_map.1 hx
    have h1 := h r hr
    simp only [Bool.not_eq_true', List.contains_eq_mem, decide_eq_false_iff_not] at h1 ⊢
    intro hm
    obtain ⟨s, hs, e⟩ := List.mem_map.1 hm
    have := getD_inj hL (by simpa using hS s hs) (by simpa using hR r hr) e
    exact h1 (this ▸ hs)
  have key : ∀ a b : Nat, Cls.indep' cl[a]? cl[b]? = true → Cls.indep' (cl.map (Cls.ren L b0))[a]? (cl.map (Cls.ren L b0))[b]? = true := by
    intro a b h
    rw [List.getElem?_map, List.getElem?_map]
    cases ha : cl[a]? with
    | none => rw [ha] at h; simp [Cls.indep'] at h
    | some c =>
      cases hb : cl[b]? with
      | none => rw [ha, hb] at h; cases c <;> simp [Cls.indep'] at h
      | some d =>
        rw [ha, hb] at h
        rw [List.all_eq_true] at hs
        have hc := hs c (List.mem_of_getElem? ha)
        have hd := hs d (List.mem_of_getElem? hb)
        cases c with
        | rd R =>
          cases d with
          | rd R2 => rfl
          | mem S b2 => exact dis R S hc hd h
        | mem S b2 =>
          cases d with
          | rd R => exact dis R S hd hc h
          | mem S2 b3 => simp [Cls.indep'] at h
  have key2 : ∀ a b : Nat, indep2 G cl a b = true → indep2 G (cl.map (Cls.ren L b0)) a b = true := by
    intro a b h
    unfold indep2 at h ⊢
    split at h
    · rename_i x y hx hy
      simp only [Bool.and_eq_true] at h ⊢
      exact ⟨h.1, key a b h.2⟩
    · cases h
  have key3 : ∀ a b : Nat, pairOk2 G cl q a b = true → pairOk2 G (cl.map (Cls.ren L b0)) q a b = true := by
    intro a b h
    unfold pairOk2 at h ⊢
    split
    · rename_i hq
      rw [if_pos hq, Bool.or_eq_true] at h
      rw [Bool.or_eq_true]
      rcases h with h | h
      · refine .inl ?_
        unfold barrier2 at h ⊢
        rw [Bool.and_eq_true, List.all_eq_true] at h ⊢
        refine ⟨h.1, fun x hx => ?_⟩
        have := h.2 x hx
        rw [Bool.or_eq_true] at this ⊢
        exact this.imp (key2 x a) id
      · exact .inr (key2 a b h)
    · rename_i hq
      rw [if_neg hq] at h
      split
      · rename_i hq2
        rw [if_pos hq2] at h; exact h
      · rename_i hq2
        rw [if_neg hq2, Bool.or_eq_true] at h
        rw [Bool.or_eq_true]
        rcases h with h | h
        · exact .inl h
        · exact .inr (key2 a b h)
  unfold drawOk2 at hd ⊢
  rw [List.all_eq_true] at hd ⊢
  intro i hi
  have := hd i hi
  rw [Bool.and_eq_true, List.all_eq_true] at this ⊢
  exact ⟨this.1, fun a ha => key3 a i (this.2 a ha)⟩

def Calm (H : Mem) (n : Nat) (H' : Mem) (n' : Nat) : Prop := n ≤ n' ∧ ∀ j, j < n → H' j = H j

def ents : List Int → Nat → List (Value × AV × Nat)
  | [], _ => []
  | k :: ks, i => (.int .i64 k, I i, i) :: ents ks (i + 1)
theorem ents_len : ∀ (s : List Int) (i : Nat), (ents s i).length = s.length := by
  intro s
  induction s with
  | nil => intro i; rfl
  | cons x xs ih => intro i; simp [ents, ih]
theorem ents_snoc : ∀ (s : List Int) (i : Nat) (k : Int), ents (s ++ [k]) i = ents s i ++ [(.int .i64 k, I (i + s.length : Nat), i + s.length)] := by
  intro s
  induction s with
  | nil => intro i k; simp [ents]
  | cons x xs ih => intro i k; simp only [List.cons_append, ents, ih, List.length_cons]; rw [show i + 1 + xs.length = i + (xs.length + 1) by omega]
theorem find_ents (k : Int) : ∀ (s : List Int) (i j : Nat), findAV (.int .i64 k) (ents s i) j = some (match findN k s i with | some q => some (q - i + j, I q, q) | none => none) := by
  intro s
  induction s with
  | nil => intro i j; rfl
  | cons x xs ih =>
    intro i j
    rw [ents, findAV, findN]
    by_cases h : x = k
    · have e : keyEq (.int .i64 k) (.int .i64 x) = some true := by simp [keyEq, h]
      rw [e, if_pos h]; simp
    · have e : keyEq (.int .i64 k) (.int .i64 x) = some false := by simp [keyEq]; exact fun e => h e.symm
      rw [e, if_neg h]
      simp only
      rw [ih]
      cases hf : findN k xs (i + 1) with
      | none => rfl
      | some q =>
        have := (M.findN_some _ _ _ hf).1
        simp only
        rw [show q - (i + 1) + (j + 1) = q - i + j by omega]

structure Wk (H : Mem) (n p m : Nat) (o : Option Nat) (seen : List Int) : Prop where
  hp : H p = some (.cells [.omap m, slv o seen.length] 200)
  hm : H m = some (.map (ents seen 0) seen.length)
  ho : YtfflojbgikfbmaaW.Ah.Own H 3 c3 o seen
  lp : p < n
  lm : m < n
  lo : ∀ i, o = some i → i < n
  pm : p ≠ m
  po : ∀ i, o = some i → i ≠ p ∧ i ≠ m
theorem Wk.far {H H' : Mem} {n n' p m : Nat} {o : Option Nat} {seen : List Int} (s : Wk H n p m o seen) (hn : n ≤ n') (hk : ∀ j, j < n → H' j = H j) : Wk H' n' p m o seen :=
  ⟨by rw [hk p s.lp, s.hp], by rw [hk m s.lm, s.hm], s.ho.mono fun i hi => hk i (s.lo i hi), by have := s.lp; omega, by have := s.lm; omega, fun i hi => by have := s.lo i hi; omega, s.pm, s.po⟩
/-- The walker is led on. -/
structure WStep (H : Mem) (n p m : Nat) (o : Option Nat) (H' : Mem) (n' : Nat) (o' : Option Nat) (seen' : List Int) : Prop where
  st : Wk H' n' p m o' seen'
  le : n ≤ n'
  keep : ∀ j, j < n → j ≠ p → j ≠ m → o ≠ some j → H' j = H j
  own : ∀ i, o' = some i → o = some i ∨ n ≤ i

theorem moreI {H : Mem} {n : Nat} {o : Option Nat} {xs : List Int} (ho : YtfflojbgikfbmaaW.Ah.Own H 3 c3 o xs) (hn : ∀ i, o = some i → i < n) (hl : xs.length ≤ 65536) (x : Int) :
    ∃ i H' n', appendAV T.T (upd H n (some (.cells [I x] 3))) (n + 1) 138 (slv o xs.length) (.osl n 0 1 (some 1)) = some (.osl i 0 (xs.length + 1) none, H', n') ∧ YtfflojbgikfbmaaW.Ah.Own H' 3 c3 (some i) (xs ++ [x]) ∧ n ≤ n' ∧ (o = some i ∨ n ≤ i) ∧ i < n' ∧ (∀ j, j < n → o ≠ some j → H' j = H j) := by
  obtain ⟨o', H', n', e1, o1, le1, f1, k1⟩ := append_own (e := c3) (z := 1) T.t138 rfl T.t3 rfl (by decide) rfl (by decide) (H := upd H n (some (.cells [I x] 3))) (n := n + 1) (o := o) (xs := xs)
    (ho.mono fun i hi => upd_ne _ _ (by have := hn i hi; omega)) (fun i hi => by have := hn i hi; omega) (y := .osl n 0 1 (some 1)) [x] (by simp [encs]) rfl (by simp [roomMax]; omega) (by simp [roomMax]; omega)
  cases o' with
  | none => simp [YtfflojbgikfbmaaW.Ah.Own] at o1
  | some i =>
    have := f1 i rfl
    refine ⟨i, H', n', by simpa using e1, o1, by omega, ?_, this.2, fun j hj hne => by rw [k1 j (by omega) hne, upd_ne _ _ (by omega)]⟩
    rcases this.1 with h | h
    · exact .inl h
    · exact .inr (by omega)

def visN (seen : List Int) (k : Int) : Nat := match findN k seen 0 with | some i => i | none => seen.length
def visS (seen : List Int) (k : Int) : List Int := match findN k seen 0 with | some _ => seen | none => seen ++ [k]

theorem idx_ents (s : List Int) (k : Int) (v : AV) : List.findIdx? (fun e : Value × AV × Nat => (e.2.2 : Int) == (s.length : Int)) (ents s 0 ++ [(.int .i64 k, v, s.length)]) = some s.length := by
  have key : ∀ (s : List Int) (i N : Nat), N = i + s.length → List.findIdx? (fun e : Value × AV × Nat => (e.2.2 : Int) == (N : Int)) (ents s i ++ [(.int .i64 k, v, N)]) = some s.length := by
    intro s
    induction s with
    | nil => intro i N h; simp [ents, List.findIdx?_cons]
    | cons x xs ih =>
      intro i N h
      rw [List.length_cons] at h
      have hne : ((i : Int) == (N : Int)) = false := by simp; omega
      rw [ents, List.cons_append, List.findIdx?_cons]
      simp only [hne]
      rw [ih (i + 1) N (by omega)]
      rfl
  exact key s 0 s.length (by omega)
theorem mod_ents (s : List Int) (k : Int) (v : AV) : (ents s 0 ++ [(Value.int .i64 k, v, s.length)]).modify s.length (fun e => (e.1, I s.length, e.2.2)) = ents (s ++ [k]) 0 := by
  rw [ents_snoc, Nat.zero_add]
  have e : s.length = (ents s 0).length := (ents_len s 0).symm
  have key : ∀ (L : List (Value × AV × Nat)) (x : Value × AV × Nat) (f : Value × AV × Nat → Value × AV × Nat), (L ++ [x]).modify L.length f = L ++ [f x] := by
    intro L x f
    induction L with
    | nil => rfl
    | cons y L ih => simp only [List.cons_append, List.length_cons, List.modify_succ_cons, ih]
  have := key (ents s 0) (Value.int .i64 k, v, s.length) (fun e => (e.1, I s.length, e.2.2))
  rw [← e] at this
  exact this

theorem visit {H : Mem} {n p m : Nat} {o : Option Nat} {seen : List Int} (s : Wk H n p m o seen) (hl : seen.length ≤ 60000) (k : Int) :
    RunQ Try.prog T.T 137 [.own p 0, I k] H n (fun r H' n' => ∃ o', r = I (visN seen k) ∧ WStep H n p m o H' n' o' (visS seen k)) := by
  have hp := s.hp
  have hm := s.hm
  have hlp := s.lp
  have hlm := s.lm
  have hf := find_ents k seen 0 0
  refine RunQ.ev 9 Try.func137 rfl rfl rfl rfl rfl fun C hr hn => ?_
  simp [hp]
  cases hfn : findN k seen 0 with
  | some i =>
    rw [hfn] at hf
    iterate 6 (try (refine evS_sound (f := 8) ?_; simp [hp, hm, hf, mapOf, mapK, keyOk]))
    refine hr _ _ _ (I i) (by simp) ⟨o, by simp [visN, hfn], ⟨by simpa [visS, hfn] using s, Nat.le_refl _, fun _ _ _ _ _ => rfl, fun i hi => .inl hi⟩⟩
  | none =>
    rw [hfn] at hf
    obtain ⟨b, H2, n2, e1, o1, le1, f1, lb, k1⟩ := moreI s.ho s.lo (by omega) k
    have hbp : b ≠ p ∧ b ≠ m := by
      rcases f1 with f | f
      · exact s.po b f
      · omega
    have hp2 : H2 p = some (.cells [.omap m, slv o seen.length] 200) := by rw [k1 p hlp (fun e => (s.po p e).1 rfl)]; exact hp
    have hm2 : H2 m = some (.map (ents seen 0) seen.length) := by rw [k1 m hlm (fun e => (s.po m e).2 rfl)]; exact hm
    have hfi := idx_ents seen k (.sc (.int .i64 0))
    have hmod := mod_ents seen k (.sc (.int .i64 0))
    have hz : zeroAV T.T 3 = some (.sc (.int .i64 0)) := by simp [zeroAV, aggK]
    have hl1 : (ents seen 0).length < 4611686018427387904 := by rw [ents_len]; omega
    have hl2 : seen.length < 4611686018427387904 := by omega
    have fin : ∀ (t : Nat → AV) (H3 : Mem), t 4 = I seen.length → H3 p = some (.cells [.omap m, .osl b 0 (seen.length + 1) none] 200) → H3 m = some (.map (ents (seen ++ [k]) 0) (seen.length + 1)) → (∀ j, j ≠ p → j ≠ m → H3 j = H2 j) → C .ret t H3 n2 := by
      intro t H3 t4 a1 a2 a3
      refine hr _ _ _ (I seen.length) (by simp [t4]) ⟨some b, by simp [visN, hfn], ⟨?_, le1, fun j h1 h2 h3 h4 => by rw [a3 j h2 h3, k1 j h1 h4], fun i hi => by cases hi; exact f1⟩⟩
      simp only [visS, hfn]
      exact ⟨by simpa using a1, by simpa using a2, o1.mono fun i hi => by cases hi; exact a3 b hbp.1 hbp.2, by omega, by omega, fun i hi => by cases hi; exact lb, s.pm, fun i hi => by cases hi; exact hbp⟩
    cases o with
    | none =>
      have h0 : seen = [] := s.ho
      have hmod0 : ((ents seen 0 ++ [(Value.int .i64 k, AV.sc (.int .i64 0), seen.length)]).modify seen.length fun e => (e.1, I 0, e.2.2)) = ents (seen ++ [k]) 0 := by rw [show (I 0 : AV) = I seen.length by rw [h0]; rfl]; exact hmod
      simp at hp e1 hp2
      iterate 6 (try (refine evS_sound (f := 8) ?_; simp [hp, hm, hf, mapOf, mapK, keyOk]))
      refine Stk.regionD 99 [.rd [], .rd [], .rd [], .rd [p], .rd [], .rd [], .rd [], .rd [], .rd [], .rd [], .rd [p], .rd [], .mem [] n, .mem [] n, .mem [m] n, .rd [], .mem [m] n, .rd [], .rd [], .mem [p] n] none (by kernel_rfl) (drawOk2_ren [p, m] (by simp [s.pm]) n [.rd [], .rd [], .rd [], .rd [0], .rd [], .rd [], .rd [], .rd [], .rd [], .rd [], .rd [0], .rd [], .mem [] 0, .mem [] 0, .mem [1] 0, .rd [], .mem [1] 0, .rd [], .rd [], .mem [0] 0] rfl (by rfl)) rfl (by simp [below]; omega) rfl ?_
      simp [hp, hm, hf, e1, hp2, hm2, mapOf, mapK, keyOk, hz, hl1, hl2, hfi, hmod0, s.pm, Ne.symm s.pm, splice]
      refine ⟨fun j h1 h2 => absurd h2 (by omega), fun j h1 => by rw [if_neg (by omega)]; exact k1 j h1 (by simp), fun j _ h1 h2 => absurd h2 h1, fun j _ h1 h2 => absurd h2 h1, fun j _ h1 h2 => absurd h2 h1, fin _ _ (by simp [h0]) (by simp) (by simp [s.pm, Ne.symm s.pm]) (fun j h1 h2 => by simp [h1, h2])⟩
    | some b0 =>
      simp at hp e1 hp2
      iterate 6 (try (refine evS_sound (f := 8) ?_; simp [hp, hm, hf, mapOf, mapK, keyOk]))
      refine Stk.regionD 99 [.rd [], .rd [], .rd [], .rd [p], .rd [], .rd [], .rd [], .rd [], .rd [], .rd [], .rd [p], .rd [], .mem [] n, .mem [b0] n, .mem [m] n, .rd [], .mem [m] n, .rd [], .rd [], .mem [p] n] none (by kernel_rfl) (drawOk2_ren [p, m, b0] (by have := s.po b0 rfl; simp [s.pm, Ne.symm this.1, Ne.symm this.2]) n [.rd [], .rd [], .rd [], .rd [0], .rd [], .rd [], .rd [], .rd [], .rd [], .rd [], .rd [0], .rd [], .mem [] 0, .mem [2] 0, .mem [1] 0, .rd [], .mem [1] 0, .rd [], .rd [], .mem [0] 0] rfl (by rfl)) rfl (by simp [below]; omega) rfl ?_
      simp [hp, hm, hf, e1, hp2, hm2, mapOf, mapK, keyOk, hz, hl1, hl2, hfi, hmod, s.pm, Ne.symm s.pm, splice]
      refine ⟨fun j h1 h2 => absurd h2 (by omega), fun j h1 h2 => by rw [if_neg (by omega)]; exact k1 j h1 (fun e => h2 (by cases e; rfl)), fun j _ h1 h2 => absurd h2 h1, fun j _ h1 h2 => absurd h2 h1, fun j _ h1 h2 => absurd h2 h1, fin _ _ (by simp) (by simp) (by simp [s.pm, Ne.symm s.pm]) (fun j h1 h2 => by simp [h1, h2])⟩
end Go.Proofs.Ytfflojbgikfbmaa.Gra
