/-
  The document's answers about instructions are the program's.
-/
import Derived.Test.YtcdafogfmijcpaaFtMC
import Derived.Test.YtcdafogfmijcpaaFtWJ
namespace Go.Proofs.Ytcdafogfmijcpaa.M
open Go.Proofs.YtcdafogfmijcpaaW.Ah Go.Proofs.Ytcdafogfmijcpaa
set_option linter.unusedVariables false
set_option linter.unusedSimpArgs false
set_option maxHeartbeats 1000000

theorem b_cond {α : Type} (b : Bool) (x y : α) : (bif b then x else y) = if b = true then x else y := by cases b <;> rfl
theorem fit19_M (F : Nat) (i : api_Inst) : R19_Fit F i = some (fitI i) := by
  obtain ⟨op, a, b, c⟩ := i
  by_cases h0 : 0 ≤ op ∧ op < 16
  · obtain ⟨h1, h2⟩ := h0
    obtain ⟨k, rfl⟩ := Int.eq_ofNat_of_zero_le h1
    have hk : k < 16 := by omega
    match k, hk with
    | 0, _ => simp only [R19_Fit, R19_number, R19_below, joinM, fitI, rowsT, b_cond]; simp; first | done | ((repeat' split) <;> (first | (refine congrArg some ?_; rw [Bool.eq_iff_iff]; simp; omega) | (rw [Bool.eq_iff_iff]; simp; omega) | (simp; omega)))
    | 1, _ => simp only [R19_Fit, R19_number, R19_below, joinM, fitI, rowsT, b_cond]; simp; first | done | ((repeat' split) <;> (first | (refine congrArg some ?_; rw [Bool.eq_iff_iff]; simp; omega) | (rw [Bool.eq_iff_iff]; simp; omega) | (simp; omega)))
    | 2, _ => simp only [R19_Fit, R19_number, R19_below, joinM, fitI, rowsT, b_cond]; simp; first | done | ((repeat' split) <;> (first | (refine congrArg some ?_; rw [Bool.eq_iff_iff]; simp; omega) | (rw [Bool.eq_iff_iff]; simp; omega) | (simp; omega)))
    | 3, _ => simp only [R19_Fit, R19_number, R19_below, joinM, fitI, rowsT, b_cond]; simp; first | done | ((repeat' split) <;> (first | (refine congrArg some ?_; rw [Bool.eq_iff_iff]; simp; omega) | (rw [Bool.eq_iff_iff]; simp; omega) | (simp; omega)))
    | 4, _ => simp only [R19_Fit, R19_number, R19_below, joinM, fitI, rowsT, b_cond]; simp; first | done | ((repeat' split) <;> (first | (refine congrArg some ?_; rw [Bool.eq_iff_iff]; simp; omega) | (rw [Bool.eq_iff_iff]; simp; omega) | (simp; omega)))
    | 5, _ => simp only [R19_Fit, R19_number, R19_below, joinM, fitI, rowsT, b_cond]; simp; first | done | ((repeat' split) <;> (first | (refine congrArg some ?_; rw [Bool.eq_iff_iff]; simp; omega) | (rw [Bool.eq_iff_iff]; simp; omega) | (simp; omega)))
    | 6, _ => simp only [R19_Fit, R19_number, R19_below, joinM, fitI, rowsT, b_cond]; simp; first | done | ((repeat' split) <;> (first | (refine congrArg some ?_; rw [Bool.eq_iff_iff]; simp; omega) | (rw [Bool.eq_iff_iff]; simp; omega) | (simp; omega)))
    | 7, _ => simp only [R19_Fit, R19_number, R19_below, joinM, fitI, rowsT, b_cond]; simp; first | done | ((repeat' split) <;> (first | (refine congrArg some ?_; rw [Bool.eq_iff_iff]; simp; omega) | (rw [Bool.eq_iff_iff]; simp; omega) | (simp; omega)))
    | 8, _ => simp only [R19_Fit, R19_number, R19_below, joinM, fitI, rowsT, b_cond]; simp; first | done | ((repeat' split) <;> (first | (refine congrArg some ?_; rw [Bool.eq_iff_iff]; simp; omega) | (rw [Bool.eq_iff_iff]; simp; omega) | (simp; omega)))
    | 9, _ => simp only [R19_Fit, R19_number, R19_below, joinM, fitI, rowsT, b_cond]; simp; first | done | ((repeat' split) <;> (first | (refine congrArg some ?_; rw [Bool.eq_iff_iff]; simp; omega) | (rw [Bool.eq_iff_iff]; simp; omega) | (simp; omega)))
    | 10, _ => simp only [R19_Fit, R19_number, R19_below, joinM, fitI, rowsT, b_cond]; simp; first | done | ((repeat' split) <;> (first | (refine congrArg some ?_; rw [Bool.eq_iff_iff]; simp; omega) | (rw [Bool.eq_iff_iff]; simp; omega) | (simp; omega)))
    | 11, _ => simp only [R19_Fit, R19_number, R19_below, joinM, fitI, rowsT, b_cond]; simp; first | done | ((repeat' split) <;> (first | (refine congrArg some ?_; rw [Bool.eq_iff_iff]; simp; omega) | (rw [Bool.eq_iff_iff]; simp; omega) | (simp; omega)))
    | 12, _ => simp only [R19_Fit, R19_number, R19_below, joinM, fitI, rowsT, b_cond]; simp; first | done | ((repeat' split) <;> (first | (refine congrArg some ?_; rw [Bool.eq_iff_iff]; simp; omega) | (rw [Bool.eq_iff_iff]; simp; omega) | (simp; omega)))
    | 13, _ => simp only [R19_Fit, R19_number, R19_below, joinM, fitI, rowsT, b_cond]; simp; first | done | ((repeat' split) <;> (first | (refine congrArg some ?_; rw [Bool.eq_iff_iff]; simp; omega) | (rw [Bool.eq_iff_iff]; simp; omega) | (simp; omega)))
    | 14, _ => simp only [R19_Fit, R19_number, R19_below, joinM, fitI, rowsT, b_cond]; simp; first | done | ((repeat' split) <;> (first | (refine congrArg some ?_; rw [Bool.eq_iff_iff]; simp; omega) | (rw [Bool.eq_iff_iff]; simp; omega) | (simp; omega)))
    | 15, _ => simp only [R19_Fit, R19_number, R19_below, joinM, fitI, rowsT, b_cond]; simp; first | done | ((repeat' split) <;> (first | (refine congrArg some ?_; rw [Bool.eq_iff_iff]; simp; omega) | (rw [Bool.eq_iff_iff]; simp; omega) | (simp; omega)))
  · have hf : fitI ⟨op, a, b, c⟩ = false := by
      unfold fitI
      rcases Int.lt_or_le op 0 with h | h
      · simp [show ¬ 0 ≤ op by omega]
      · simp [show ¬ op < 16 by omega]
    rw [hf]
    have hne : ∀ k : Int, 0 ≤ k → k < 16 → ¬ op = k := fun k g1 g2 e => h0 (by omega)
    simp [R19_Fit, joinM, b_cond, hne]

theorem rng_M (i : api_Inst) (hi : fitI i = true) : ∃ k : Nat, k < 16 ∧ i.Op = k ∧ rowI i = rowsT.getD k row0 ∧ (rowsT.getD k row0).l0 ≤ i.A ∧ i.A ≤ (rowsT.getD k row0).m0 := by
  have h := hi
  unfold fitI at h
  simp only [Bool.and_eq_true, decide_eq_true_eq] at h
  obtain ⟨h1, h2, ⟨h3, h4⟩, _⟩ := h
  exact ⟨i.Op.toNat, by omega, by omega, by unfold rowI; rw [if_pos hi], h3, h4⟩
theorem ops_M (F : Nat) (a : Int) : ∃ l t, R09_Ops F a = some (l, t) ∧ (l.length : Int) = wantsP a := by
  unfold R09_Ops wantsP joinM
  simp only [b_cond, R09_Bool]
  by_cases h8 : a = 8
  · subst h8; exact ⟨_, _, rfl, rfl⟩
  · by_cases h11 : a = 11
    · subst h11; exact ⟨_, _, rfl, rfl⟩
    · rw [if_neg h8, if_neg h11]
      simp [h8, h11]

      (repeat' split) <;> exact ⟨_, ⟨_, rfl⟩, rfl⟩
theorem takes19_M (F : Nat) (i : api_Inst) (hi : fitI i = true) : R19_Takes F i = some (takesP i, putsP i) := by
  obtain ⟨k, hk, hop, hrow, hA, hB⟩ := rng_M i hi
  unfold R19_Takes takesP putsP
  rw [fit19_M, hi, hrow]
  simp only [if_true, Option.bind_some, Bool.not_true, cond_false, joinM, hop]
  have hk16 : k = 0 ∨ k = 1 ∨ k = 2 ∨ k = 3 ∨ k = 4 ∨ k = 5 ∨ k = 6 ∨ k = 7 ∨ k = 8 ∨ k = 9 ∨ k = 10 ∨ k = 11 ∨ k = 12 ∨ k = 13 ∨ k = 14 ∨ k = 15 := by omega
  rcases hk16 with rfl | rfl | rfl | rfl | rfl | rfl | rfl | rfl | rfl | rfl | rfl | rfl | rfl | rfl | rfl | rfl
  · simp [b_cond, rowsT]
  · simp [b_cond, rowsT]
  · simp [b_cond, rowsT]
  · simp [b_cond, rowsT]
  · simp [b_cond, rowsT]
  · obtain ⟨l, t, h1, h2⟩ := ops_M F i.A
    simp [b_cond, h1, h2, rowsT]
  · simp [b_cond, rowsT]
  · simp [b_cond, rowsT]
  · have e1 : (rowsT.getD 8 row0).l0 = 1 := rfl
    have e2 : (rowsT.getD 8 row0).m0 = 8192 := rfl
    rw [e1] at hA
    rw [e2] at hB
    have hw : IntKind.i64.wrap (i.A + 1) = i.A + 1 := wrap64_id (by omega) (by omega)
    simp [b_cond, rowsT, hw]
  · simp [b_cond, rowsT]
  · simp [b_cond, rowsT]
  · simp [b_cond, rowsT]
  · simp [b_cond, rowsT]
  · simp [b_cond, rowsT]
  · simp [b_cond, rowsT]
  · simp [b_cond, rowsT]
theorem goes19_M (F : Nat) (i : api_Inst) (hi : fitI i = true) : R19_Goes F i = some (goesP i, nextP i) := by
  obtain ⟨k, hk, hop, hrow, hA, hB⟩ := rng_M i hi
  unfold R19_Goes goesP nextP
  rw [fit19_M, hi, hrow]
  simp only [if_true, Option.bind_some, Bool.not_true, cond_false, joinM, hop]
  have hk16 : k = 0 ∨ k = 1 ∨ k = 2 ∨ k = 3 ∨ k = 4 ∨ k = 5 ∨ k = 6 ∨ k = 7 ∨ k = 8 ∨ k = 9 ∨ k = 10 ∨ k = 11 ∨ k = 12 ∨ k = 13 ∨ k = 14 ∨ k = 15 := by omega
  rcases hk16 with rfl | rfl | rfl | rfl | rfl | rfl | rfl | rfl | rfl | rfl | rfl | rfl | rfl | rfl | rfl | rfl
  · simp [b_cond, rowsT, allP]
  · simp [b_cond, rowsT, allP]
  · simp [b_cond, rowsT, allP]
  · simp [b_cond, rowsT, allP]
  · simp [b_cond, rowsT, allP]
  · simp [b_cond, rowsT, allP]
  · simp [b_cond, rowsT, allP]
  · simp [b_cond, rowsT, allP]
  · simp [b_cond, rowsT, allP]
  · simp [b_cond, rowsT, allP]
  · simp [b_cond, rowsT, allP]
  · simp [b_cond, rowsT, allP]
  · simp [b_cond, rowsT, allP]
  · simp [b_cond, rowsT, allP]
  · simp [b_cond, rowsT, allP]
  · simp [b_cond, rowsT, allP]
end Go.Proofs.Ytcdafogfmijcpaa.M
namespace Go.Proofs.Ytcdafogfmijcpaa.M
open Go.Proofs.YtcdafogfmijcpaaW.Ah Go.Proofs.Ytcdafogfmijcpaa
set_option linter.unusedVariables false
set_option linter.unusedSimpArgs false
set_option maxHeartbeats 1000000

theorem put21_M (F : Nat) (i : api_Inst) (s : Row) (hi : fitI i = true) (h2 : i.Op = 2 → 0 ≤ i.A ∧ i.A < s.length) (h8 : i.Op = 8 → 0 < s.length) (hs : s.length ≤ 2 ^ 40) : R21_put F i s = some (putP i s) := by
  unfold R21_put putP
  simp only [b_cond, beq_iff_eq]
  by_cases e0 : i.Op = 0
  · simp [e0]
  · by_cases e5 : i.Op = 5
    · obtain ⟨k, hk, hop, hrow, hA, hB⟩ := rng_M i hi
      have hk5 : k = 5 := by omega
      subst hk5
      have e1 : (rowsT.getD 5 row0).l0 = 0 := rfl
      have e2 : (rowsT.getD 5 row0).m0 = 11 := rfl
      rw [e1] at hA; rw [e2] at hB
      simp [e5]
      rw [Bool.eq_iff_iff]; simp; omega
    · by_cases e2 : i.Op = 2
      · obtain ⟨g1, g2⟩ := h2 e2
        obtain ⟨a, ha⟩ := Int.eq_ofNat_of_zero_le g1
        have hal : a < s.length := by omega
        simp [e2, ha, idx_lt hal, hal]
      · by_cases e8 : i.Op = 8
        · have g1 := h8 e8
          have hw : IntKind.i64.wrap ((s.length : Int) - 1) = ((s.length - 1 : Nat) : Int) := by
            rw [show (s.length : Int) - 1 = ((s.length - 1 : Nat) : Int) by omega, wrap_nat _ (by omega)]
          rw [if_neg e0, if_neg e5, if_neg e2, if_pos e8, if_neg e0, if_neg e5, if_neg e2, if_pos e8, hw, idx_lt (show s.length - 1 < s.length by omega), Option.bind_some, List.getD_eq_getElem?_getD, List.getElem?_eq_getElem (show s.length - 1 < s.length by omega)]; rfl
        · simp [e0, e5, e2, e8]
def namesP (i : api_Inst) : Int := if i.Op = 2 ∨ i.Op = 4 ∨ i.Op = 11 ∨ i.Op = 12 ∨ i.Op = 13 ∨ i.Op = 14 then i.A else -1
theorem names21_M (F : Nat) (i : api_Inst) : R21_names F i = some (namesP i) := by
  unfold R21_names namesP joinM
  simp only [b_cond, beq_iff_eq]
  (repeat' split) <;> simp_all
end Go.Proofs.Ytcdafogfmijcpaa.M
namespace Go.Proofs.Ytcdafogfmijcpaa.Flo
open Go.Proofs.YtcdafogfmijcpaaW.Ah
open M (api_Code api_Func api_Inst c3 c4 c9 c22 c26 c29 c36 c41 c42 c44 c47 c51 StF comeP joinR LkS comeL)
set_option maxRecDepth 8000
set_option linter.unusedVariables false
set_option linter.unusedSimpArgs false
attribute [local simp] T.t2 T.t3 T.t4 T.t9 T.t22 T.t23 T.t24 T.t26 T.t29 T.t36 T.t39 T.t41 T.t42 T.t44 T.t47 T.t73 T.t75 Op.maxDepth List.range List.range.loop
attribute [-simp] appendAV

def RowL (H : Mem) (role : Nat → Option Role) (q : Nat) (v : AV) : Option M.Row → Prop
  | none => v = .sc (.slice none 0 0)
  | some x => ∃ o cc, v = slc o x.length cc ∧ OwnC H 4 1 c4 o cc x ∧ ∀ i, o = some i → role i = some (.row q)

abbrev lkC (c : api_Code) (f : api_Func) (A K m : Nat) (ok more : Bool) : List AV :=
  [.ssl (encs c41 c.Funs) c.Funs.length false, .ssl (encs c51 c.Texts) c.Texts.length false, .ssl (encs c47 c.Tables) c.Tables.length false,
   .sc (.string f.Name), I f.Params, I f.Slots, .ssl (encs c44 f.Code) f.Code.length false, .osl A 0 m (some m), .osl K 0 m (some m), B ok, B more]

structure Lkr (c : api_Code) (f : api_Func) (p A K : Nat) (role : Nat → Option Role) (H : Mem) (n : Nat) (s : LkS) : Prop where
  hp : H p = some (.cells (lkC c f A K s.st.length s.ok s.more) 75)
  hA : ∃ hv, H A = some (.cells hv 42) ∧ hv.length = s.st.length ∧ ∀ (q : Nat) (r : Option M.Row), s.st[q]? = some r → ∃ v, hv[q]? = some v ∧ RowL H role q v r
  hK : H K = some (.cells (s.st.map fun r => B r.isSome) 4)
  rp : role p = some .str
  rA : role A = some .tab
  rK : role K = some .kn
  lt : ∀ j, role j ≠ none → j < n
  sl : s.st.length = f.Code.length

def LRes (c : api_Code) (f : api_Func) (p A K : Nat) (role : Nat → Option Role) (H : Mem) (n : Nat) (H' : Mem) (n' : Nat) (s : LkS) : Prop :=
  n ≤ n' ∧ (∀ j, j < n → role j = none → H' j = H j) ∧ ∃ role', (∀ j, j < n → role' j = role j) ∧ Lkr c f p A K role' H' n' s
theorem LRes.trans {c : api_Code} {f : api_Func} {p A K : Nat} {role : Nat → Option Role} {H H1 H2 : Mem} {n n1 n2 : Nat} {s : LkS} {role1 : Nat → Option Role}
    (hn : n ≤ n1) (hk : ∀ j, j < n → role j = none → H1 j = H j) (hr : ∀ j, j < n → role1 j = role j) (h : LRes c f p A K role1 H1 n1 H2 n2 s) : LRes c f p A K role H n H2 n2 s := by
  obtain ⟨g1, g2, role2, g3, g4⟩ := h
  exact ⟨Nat.le_trans hn g1, fun j h1 h2 => by rw [g2 j (by omega) (by rw [hr j h1]; exact h2), hk j h1 h2], role2, fun j h1 => by rw [g3 j (by omega), hr j h1], g4⟩

theorem RowL.keep {H H' : Mem} {role role' : Nat → Option Role} {q : Nat} {v : AV} {r : Option M.Row} (h : RowL H role q v r) (hk : ∀ i, role i = some (.row q) → H' i = H i ∧ role' i = role i) : RowL H' role' q v r := by
  cases r with
  | none => exact h
  | some x =>
    obtain ⟨o, cc, h1, h2, h3⟩ := h
    exact ⟨o, cc, h1, h2.mono fun i hi => (hk i (h3 i hi)).1, fun i hi => by rw [(hk i (h3 i hi)).2, h3 i hi]⟩

/-- More blocks; nothing of the looker is written but its flags. -/
theorem Lkr.far {c : api_Code} {f : api_Func} {p A K : Nat} {role : Nat → Option Role} {H H' : Mem} {n n' : Nat} {s : LkS} {ok more : Bool} (w : Lkr c f p A K role H n s) (hn : n ≤ n') (hp : H' p = some (.cells (lkC c f A K s.st.length ok more) 75)) (hk : ∀ j, j < n → j ≠ p → role j ≠ none → H' j = H j) : Lkr c f p A K role H' n' ⟨s.st, ok, more⟩ := by
  have k : ∀ j r, role j = some r → r ≠ .str → H' j = H j := fun j r hr hne => hk j (w.lt j (by rw [hr]; simp)) (fun e => by subst e; rw [w.rp] at hr; cases hr; exact hne rfl) (by rw [hr]; simp)
  obtain ⟨hv, h4, h5, h6⟩ := w.hA
  refine ⟨hp, ⟨hv, by rw [k A _ w.rA (by simp), h4], h5, fun q r hr => ?_⟩, by rw [k K _ w.rK (by simp), w.hK], w.rp, w.rA, w.rK, fun j hj => by have := w.lt j hj; omega, w.sl⟩
  obtain ⟨v, g1, g2⟩ := h6 q r hr
  exact ⟨v, g1, g2.keep fun i hi => ⟨k i _ hi (by simp), rfl⟩⟩

/-- A row is another, where it is. -/
theorem Lkr.rowSet {c : api_Code} {f : api_Func} {p A K : Nat} {role : Nat → Option Role} {H H' : Mem} {n : Nat} {s : LkS} {more : Bool} {q i : Nat} {x y : M.Row} {cc : Option Nat} {ys : List AV} (w : Lkr c f p A K role H n s)
    (hq : s.st[q]? = some (some x)) (hv : ∃ hv, H A = some (.cells hv 42) ∧ hv[q]? = some (.osl i 0 x.length cc)) (hi : role i = some (.row q)) (hl : y.length = x.length) (hcc : ∀ k, cc = some k → x.length ≤ k ∧ k * 1 ≤ (encs c4 x ++ ys).length)
    (hH : H' i = some (.cells (encs c4 y ++ ys) 4)) (hp : H' p = some (.cells (lkC c f A K s.st.length s.ok more) 75)) (hk : ∀ j, j ≠ i → j ≠ p → H' j = H j) : Lkr c f p A K role H' n ⟨s.st.set q (some y), s.ok, more⟩ := by
  have k : ∀ j r, role j = some r → r ≠ .row q → r ≠ .str → H' j = H j := fun j r h h1 h2 => hk j (fun e => by subst e; rw [hi] at h; cases h; exact h1 rfl) (fun e => by subst e; rw [w.rp] at h; cases h; exact h2 rfl)
  obtain ⟨hv2, h4, h5, h6⟩ := w.hA
  obtain ⟨hv1, g1, g2⟩ := hv
  rw [g1] at h4; cases h4
  refine ⟨by rw [hp, List.length_set], ⟨hv2, by rw [k A _ w.rA (by simp) (by simp), g1], by rw [List.length_set]; exact h5, fun q' r hr => ?_⟩, ?_, w.rp, w.rA, w.rK, w.lt, by rw [List.length_set]; exact w.sl⟩
  · by_cases e : q' = q
    · subst e
      rw [List.getElem?_set_self (List.getElem?_eq_some_iff.1 hq).1] at hr
      cases hr
      exact ⟨_, g2, some i, cc, by rw [hl]; rfl, ⟨ys, hH, fun k hk => by have h := hcc k hk; rw [List.length_append, length_encs (e := c4)] at h ⊢; omega⟩, fun j hj => by cases hj; exact hi⟩
    · rw [List.getElem?_set_ne (Ne.symm e)] at hr
      obtain ⟨v, a1, a2⟩ := h6 q' r hr
      exact ⟨v, a1, a2.keep fun j hj => ⟨k j _ hj (by intro h; cases h; exact e rfl) (by simp), rfl⟩⟩
  · rw [k K _ w.rK (by simp) (by simp), w.hK, List.map_set]
    congr 2
    rw [M.set_same]
    rw [List.getElem?_map, hq]; rfl

/-- A row that was not known. -/
theorem Lkr.rowNew {c : api_Code} {f : api_Func} {p A K : Nat} {role : Nat → Option Role} {H H' : Mem} {n n' : Nat} {s : LkS} {more : Bool} {q : Nat} {o cc : Option Nat} {y : M.Row} {hv : List AV} (w : Lkr c f p A K role H n s)
    (hq : s.st[q]? = some none) (hn : n ≤ n') (ho : ∀ i, o = some i → n ≤ i ∧ i < n') (hO : OwnC H' 4 1 c4 o cc y) (hA : H A = some (.cells hv 42)) (hA' : H' A = some (.cells (hv.set q (slc o y.length cc)) 42)) (hK' : H' K = some (.cells ((s.st.map fun r => B r.isSome).set q (B true)) 4))
    (hp : H' p = some (.cells (lkC c f A K s.st.length s.ok more) 75)) (hk : ∀ j, j < n → j ≠ A → j ≠ K → j ≠ p → H' j = H j) :
    ∃ role', (∀ j, j < n → role' j = role j) ∧ Lkr c f p A K role' H' n' ⟨s.st.set q (some y), s.ok, more⟩ := by
  have l : ∀ j r, role j = some r → j < n := fun j r h => w.lt j (by rw [h]; simp)
  have k : ∀ j r, role j = some r → r ≠ .tab → r ≠ .kn → r ≠ .str → H' j = H j := fun j r h h1 h2 h3 => hk j (l j r h) (fun e => by subst e; rw [w.rA] at h; cases h; exact h1 rfl) (fun e => by subst e; rw [w.rK] at h; cases h; exact h2 rfl) (fun e => by subst e; rw [w.rp] at h; cases h; exact h3 rfl)
  obtain ⟨role', hr', hri, hrn⟩ : ∃ role' : Nat → Option Role, (∀ j, j < n → role' j = role j) ∧ (∀ i, o = some i → role' i = some (.row q)) ∧ (∀ j, role' j ≠ none → j < n') := by
    cases o with
    | none => exact ⟨role, fun _ _ => rfl, fun i hi => (by cases hi), fun j hj => by have := w.lt j hj; omega⟩
    | some i =>
      refine ⟨upd role i (some (.row q)), fun j hj => by rw [upd_ne _ _ (by have := ho i rfl; omega)], fun j hj => by cases hj; exact upd_same _ _ _, fun j hj => ?_⟩
      by_cases e : j = i
      · subst e; exact (ho j rfl).2
      · rw [upd_ne _ _ e] at hj
        have := w.lt j hj; omega
  have r' : ∀ j r, role j = some r → role' j = some r := fun j r h => by rw [hr' j (l j r h), h]
  obtain ⟨hv2, h4, h5, h6⟩ := w.hA
  rw [hA] at h4; cases h4
  have hql := (List.getElem?_eq_some_iff.1 hq).1
  refine ⟨role', hr', by rw [hp, List.length_set], ⟨_, hA', by rw [List.length_set, List.length_set]; exact h5, fun q' r hr => ?_⟩, by rw [hK', List.map_set]; rfl, r' p _ w.rp, r' A _ w.rA, r' K _ w.rK, hrn, by rw [List.length_set]; exact w.sl⟩
  by_cases e : q' = q
  · subst e
    rw [List.getElem?_set_self hql] at hr
    cases hr
    exact ⟨_, List.getElem?_set_self (by rw [h5]; exact hql), o, cc, rfl, hO, hri⟩
  · rw [List.getElem?_set_ne (Ne.symm e)] at hr
    obtain ⟨v, a1, a2⟩ := h6 q' r hr
    exact ⟨v, by rw [List.getElem?_set_ne (Ne.symm e)]; exact a1, a2.keep fun j hj => ⟨k j _ hj (by simp) (by simp) (by simp), hr' j (l j _ hj)⟩⟩
end Go.Proofs.Ytcdafogfmijcpaa.Flo
namespace Go.Proofs.Ytcdafogfmijcpaa.Flo
open Go.Proofs.YtcdafogfmijcpaaW.Ah
open M (api_Code api_Func api_Inst c3 c4 c9 c22 c26 c29 c36 c41 c42 c44 c47 c51 StF comeP joinR LkS comeL)
set_option maxRecDepth 8000
set_option linter.unusedVariables false
set_option linter.unusedSimpArgs false
attribute [local simp] T.t2 T.t3 T.t4 T.t9 T.t22 T.t23 T.t24 T.t26 T.t29 T.t36 T.t39 T.t41 T.t42 T.t44 T.t47 T.t73 T.t75 Op.maxDepth List.range List.range.loop
attribute [-simp] appendAV cellsOf cellOk partOk
attribute [local simp] cellsOf_sc cellOk_sc partOk_sc cellsOf_own cellOk_own partOk_own cellsOf_osl cellOk_osl partOk_osl cellsOf_sh cellOk_sh partOk_sh cellsOf_ssl cellOk_ssl partOk_ssl cellsOf_esl cellOk_esl partOk_esl cellsOf_fn cellOk_fn partOk_fn cellsOf_omap cellOk_omap partOk_omap cellsOf_agg partOk_agg cellsOf_slv cellOk_slv partOk_slv

theorem cellsOf_slc (o : Option Nat) (k : Nat) (cc : Option Nat) : cellsOf (slc o k cc) = [slc o k cc] := by cases o <;> rfl
theorem cellOk_slc (o : Option Nat) (k : Nat) (cc : Option Nat) : cellOk (slc o k cc) = true := by cases o <;> rfl
theorem app33 {H : Mem} {n : Nat} {y : AV} {xs : M.Row} (hy : elemsOf H 1 y = some (xs.length, encs c4 xs)) (hl : xs.length ≤ 2 ^ 20) :
    ∃ o' c' H' n', appendAV T.T H n 42 (.sc (.slice none 0 0)) y = some (slc o' xs.length c', H', n') ∧ OwnC H' 4 1 c4 o' c' xs ∧ n ≤ n' ∧ (∀ i, o' = some i → n ≤ i ∧ i < n') ∧ (∀ j, j < n → H' j = H j) := by
  obtain ⟨o', c', H', n', e1, o1, le1, f1, k1⟩ := append_ownC (e := c4) (z := 1) T.t42 rfl T.t4 rfl (by decide) rfl (by decide) (H := H) (n := n) (o := none) (c := none) (xs := []) rfl (fun i hi => by cases hi) (y := y) xs hy (all_encs M.ok4 xs) (by simp [roomMax]; omega) (by simp [roomMax]; omega)
  refine ⟨o', c', H', n', e1, o1, le1, fun i hi => ?_, fun j hj => k1 j hj (by simp)⟩
  have := f1 i hi
  refine ⟨?_, this.2⟩
  rcases this.1 with h | h
  · cases h
  · exact h

theorem come33a {c : api_Code} {f : api_Func} {p A K : Nat} {role : Nat → Option Role} {H : Mem} {n : Nat} {s : LkS} (w : Lkr c f p A K role H n s) {S : Nat} (hS : f.Slots = S) (hSl : S ≤ 8192) (hcl : f.Code.length ≤ 2 ^ 20) (to : Nat) {ob cc : Option Nat} {xs : M.Row} (hob : OwnC H 4 1 c4 ob cc xs) (hor : ∀ i, ob = some i → role i = none ∧ i < n) (h12 : ¬ (to < f.Code.length ∧ xs.length ≤ S)) :
    RunQ Try.prog T.T 33 [.own p 0, I to, slc ob xs.length cc] H n (fun r H' n' => r = .tup [] ∧ LRes c f p A K role H n H' n' (comeL S s to xs)) := by
  have hp := w.hp
  obtain ⟨hv, hA, hvl, hrow⟩ := w.hA
  have hK := w.hK
  have hpn : p < n := w.lt p (by rw [w.rp]; simp)
  have hAn : A < n := w.lt A (by rw [w.rA]; simp)
  have hKn : K < n := w.lt K (by rw [w.rK]; simp)
  have hpA : p ≠ A := fun e => by have h1 := w.rp; rw [e, w.rA] at h1; cases h1
  have hpK : p ≠ K := fun e => by have h1 := w.rp; rw [e, w.rK] at h1; cases h1
  have hAK : A ≠ K := fun e => by have h1 := w.rA; rw [e, w.rK] at h1; cases h1
  have hsl := w.sl
  obtain ⟨st, ok, more⟩ := s
  simp only at hp hvl hrow hK hsl
  -- the flag
  have bad : ∀ (H' : Mem) (n' : Nat), n' = n → H' p = some (.cells (lkC c f A K st.length false more) 75) → (∀ j, j ≠ p → H' j = H j) → LRes c f p A K role H n H' n' ⟨st, false, more⟩ := fun H' n' e h1 h2 => by
    subst e
    exact ⟨Nat.le_refl _, fun j _ hj => h2 j (fun e => by rw [e, w.rp] at hj; cases hj), role, fun _ _ => rfl, w.far (Nat.le_refl _) h1 (fun j _ hj _ => h2 j hj)⟩
  by_cases h1 : to < f.Code.length
  case neg =>
    have hc : comeL S ⟨st, ok, more⟩ to xs = ⟨st, false, more⟩ := by
      unfold M.comeL M.comeP
      have : st[to]? = none := List.getElem?_eq_none (by omega)
      simp only [this]
      by_cases e : xs.length ≤ S
      · rw [if_pos e]
      · rw [if_neg e]
    rw [hc]
    have h1i : (f.Code.length : Int) ≤ to := by omega
    have hneg : ¬ (to : Int) < 0 := by omega
    refine RunQ.ev 4 Try.func33 rfl rfl rfl rfl rfl fun C hr hn => ?_
    simp
    iterate 16 (try (refine evS_sound (f := 4) ?_; simp [hp, partOf, h1i, hneg, splice]))
    exact hr _ _ _ (.tup []) (by simp) ⟨rfl, bad _ _ rfl (by simp) (fun j hj => by simp [hj])⟩
  have h1i : (to : Int) < f.Code.length := by omega
  have h1j : ¬ (f.Code.length : Int) ≤ to := by omega
  have hneg : ¬ (to : Int) < 0 := by omega
  by_cases h2 : xs.length ≤ S
  case neg =>
    have hc : comeL S ⟨st, ok, more⟩ to xs = ⟨st, false, more⟩ := by
      unfold M.comeL M.comeP
      rw [if_neg h2]
    rw [hc]
    have h2i : (S : Int) < xs.length := by omega
    obtain ⟨b, hb⟩ := ownC_open hob (k := 0) (by omega)
    subst hb
    refine RunQ.ev 4 Try.func33 rfl rfl rfl rfl rfl fun C hr hn => ?_
    simp
    iterate 20 (try (refine evS_sound (f := 4) ?_; simp [hp, partOf, h1i, h1j, hneg, hS, h2i, splice]))
    exact hr _ _ _ (.tup []) (by simp) ⟨rfl, bad _ _ rfl (by simp [hS]) (fun j hj => by simp [hj])⟩
  exact absurd ⟨h1, h2⟩ h12

theorem come33u {c : api_Code} {f : api_Func} {p A K : Nat} {role : Nat → Option Role} {H : Mem} {n : Nat} {s : LkS} (w : Lkr c f p A K role H n s) {S : Nat} (hS : f.Slots = S) (hSl : S ≤ 8192) (hcl : f.Code.length ≤ 2 ^ 20) (to : Nat) {ob cc : Option Nat} {xs : M.Row} (hob : OwnC H 4 1 c4 ob cc xs) (hor : ∀ i, ob = some i → role i = none ∧ i < n) (h1 : to < f.Code.length) (h2 : xs.length ≤ S) (hr0 : s.st[to]? = some none) :
    RunQ Try.prog T.T 33 [.own p 0, I to, slc ob xs.length cc] H n (fun r H' n' => r = .tup [] ∧ LRes c f p A K role H n H' n' (comeL S s to xs)) := by
  have hp := w.hp
  obtain ⟨hv, hA, hvl, hrow⟩ := w.hA
  have hK := w.hK
  have hpn : p < n := w.lt p (by rw [w.rp]; simp)
  have hAn : A < n := w.lt A (by rw [w.rA]; simp)
  have hKn : K < n := w.lt K (by rw [w.rK]; simp)
  have hpA : p ≠ A := fun e => by have h1 := w.rp; rw [e, w.rA] at h1; cases h1
  have hpK : p ≠ K := fun e => by have h1 := w.rp; rw [e, w.rK] at h1; cases h1
  have hAK : A ≠ K := fun e => by have h1 := w.rA; rw [e, w.rK] at h1; cases h1
  have hsl := w.sl
  obtain ⟨st, ok, more⟩ := s
  simp only at hp hvl hrow hK hsl
  -- the flag
  have bad : ∀ (H' : Mem) (n' : Nat), n' = n → H' p = some (.cells (lkC c f A K st.length false more) 75) → (∀ j, j ≠ p → H' j = H j) → LRes c f p A K role H n H' n' ⟨st, false, more⟩ := fun H' n' e h1 h2 => by
    subst e
    exact ⟨Nat.le_refl _, fun j _ hj => h2 j (fun e => by rw [e, w.rp] at hj; cases hj), role, fun _ _ => rfl, w.far (Nat.le_refl _) h1 (fun j _ hj _ => h2 j hj)⟩
  have h1i : (to : Int) < f.Code.length := by omega
  have h1j : ¬ (f.Code.length : Int) ≤ to := by omega
  have hneg : ¬ (to : Int) < 0 := by omega
  have h2i : ¬ (S : Int) < xs.length := by omega
  have h20 : ¬ (S : Int) < 0 := by omega
  have htol : to < st.length := by omega
  have htoi : (to : Int) < st.length := by omega
  have hx : ∀ x, st[to]? = some x → st[to] = x := fun x hx => by rw [List.getElem?_eq_getElem htol] at hx; simpa using hx
  simp only at hr0
  have hg := hx _ hr0
  obtain ⟨v0, hv0, hrow0⟩ := hrow to _ hr0
  have hvl2 : to < hv.length := by omega
  have htol1 : to + 1 ≤ st.length := htol
  have htol2 : to + 1 ≤ hv.length := by omega
  have hc : comeL S ⟨st, ok, more⟩ to xs = ⟨st.set to (some xs), ok, true⟩ := by
    unfold M.comeL M.comeP; rw [if_pos h2]; simp [hr0]
  rw [hc]
  have hs1 := cut_set (l := st.map fun r => B r.isSome) (k := to) (v := B true) (by simpa using htol)
  refine RunQ.ev 4 Try.func33 rfl rfl rfl rfl rfl fun C hr hn => ?_
  have fin : ∀ (t : Nat → AV) (H' : Mem) (n' : Nat) (o c2 : Option Nat), n ≤ n' → (∀ i, o = some i → n ≤ i ∧ i < n') → OwnC H' 4 1 c4 o c2 xs → H' A = some (.cells (hv.set to (slc o xs.length c2)) 42) → H' K = some (.cells ((st.map fun r => B r.isSome).set to (B true)) 4) → H' p = some (.cells (lkC c f A K st.length ok true) 75) → (∀ j, j < n → j ≠ A → j ≠ K → j ≠ p → H' j = H j) → C .ret t H' n' := fun t H' n' o c2 g1 g2 g3 g4 g5 g6 g7 => by
    obtain ⟨role', hr', w'⟩ := w.rowNew hr0 g1 g2 g3 hA g4 g5 g6 g7
    exact hr _ _ _ (.tup []) (by simp) ⟨rfl, g1, fun j hj hro => g7 j hj (fun e => by rw [e, w.rA] at hro; cases hro) (fun e => by rw [e, w.rK] at hro; cases hro) (fun e => by rw [e, w.rp] at hro; cases hro), role', hr', w'⟩
  have hs0 := cut_set (l := hv) (k := to) (v := .sc (.slice none 0 0)) hvl2
  cases ob with
  | none =>
    have hx0 : xs = [] := hob
    subst hx0
    simp
    iterate 30 (try (refine evS_sound (f := 4) ?_; simp [hp, hK, hA, partOf, h1i, h1j, hneg, hS, h20, htoi, htol, hg, htol1, htol2, hAK, Ne.symm hAK, hpA, hpK, Ne.symm hpA, Ne.symm hpK, hs1, hs0]))
    obtain ⟨H2, hH2⟩ : ∃ H2 : Mem, H2 = upd (upd H K (some (.cells ((st.map fun r => B r.isSome).set to (B true)) 4))) A (some (.cells (hv.set to (.sc (.slice none 0 0))) 42)) := ⟨_, rfl⟩
    rw [← hH2]
    have hk2 : ∀ j, j ≠ A → j ≠ K → H2 j = H j := fun j g1 g2 => by rw [hH2, upd_ne _ _ g1, upd_ne _ _ g2]
    have hp2 := (hk2 p hpA hpK).trans hp
    have hA2 : H2 A = some (.cells (hv.set to (.sc (.slice none 0 0))) 42) := by rw [hH2, upd_same]
    have hK2 : H2 K = some (.cells ((st.map fun r => B r.isSome).set to (B true)) 4) := by rw [hH2, upd_ne _ _ (Ne.symm hAK), upd_same]
    clear hH2
    obtain ⟨o', c', H3, n3, e3, o3, le3, f3, k3⟩ := app33 (H := H2) (n := n) (y := .sc (.slice none 0 0)) (xs := []) rfl (by omega)
    have hA3 := (k3 A hAn).trans hA2
    have hp3 := (k3 p hpn).trans hp2
    have hK3 := (k3 K hKn).trans hK2
    have hcs := cellsOf_slc o' ([] : M.Row).length c'
    have hco := cellOk_slc o' ([] : M.Row).length c'
    generalize hval : slc o' ([] : M.Row).length c' = val at e3 hcs hco
    have hs3 := cut_set (l := hv.set to (.sc (.slice none 0 0))) (k := to) (v := val) (by simpa using hvl2)
    rw [List.set_set] at hs3
    refine Stk.rgD [.rd [], .rd [], .rd [], .rd [p], .rd [], .rd [], .rd [], .rd [], .rd [p], .rd [], .rd [A], .rd [A], .rd [], .mem [] n, .rd [A], .mem [A] n] none (by kernel_rfl) (drawOk2_ren [p, A] (by simp; omega) n [.rd [], .rd [], .rd [], .rd [0], .rd [], .rd [], .rd [], .rd [], .rd [0], .rd [], .rd [1], .rd [1], .rd [], .mem [] 0, .rd [1], .mem [1] 0] rfl (by rfl)) rfl (by simp [below]; omega) rfl ?_
    iterate 30 (try (refine evS_sound (f := 1) ?_; simp [hp2, hA2, partOf, htoi, htol, htol2, hvl2, e3, hA3, hcs, hco, hs3]))
    refine ⟨k3, ?_⟩
    iterate 4 (try (refine evS_sound (f := 1) ?_; simp [hp2, hA2, partOf, htoi, htol, htol2, hvl2, e3, hA3, hcs, hco, hs3]))
    refine ⟨fun j h1 h2 h3 => absurd h3 h2, ?_⟩
    iterate 16 (try (refine evS_sound (f := 1) ?_; simp [hp3, hpA, Ne.symm hpA, partOf, splice]))
    subst hval
    refine fin _ _ _ o' c' le3 f3 (o3.mono fun i hi => ?_) (by simp [Ne.symm hpA]) (by simp [Ne.symm hpK, Ne.symm hAK, hK3]) (by simp [hS]) (fun j g1 g2 g3 g4 => by simp [g2, g4, k3 j g1, hk2 j g2 g3])
    have := f3 i hi
    rw [upd_ne _ _ (by omega), upd_ne _ _ (by omega)]
  | some b =>
    obtain ⟨ys, hb, hcc⟩ := hob
    simp
    iterate 30 (try (refine evS_sound (f := 4) ?_; simp [hp, hK, hA, partOf, h1i, h1j, hneg, hS, h2i, htoi, htol, hg, htol1, htol2, hAK, Ne.symm hAK, hpA, hpK, Ne.symm hpA, Ne.symm hpK, hs1, hs0]))
    obtain ⟨H2, hH2⟩ : ∃ H2 : Mem, H2 = upd (upd H K (some (.cells ((st.map fun r => B r.isSome).set to (B true)) 4))) A (some (.cells (hv.set to (.sc (.slice none 0 0))) 42)) := ⟨_, rfl⟩
    rw [← hH2]
    have hk2 : ∀ j, j ≠ A → j ≠ K → H2 j = H j := fun j g1 g2 => by rw [hH2, upd_ne _ _ g1, upd_ne _ _ g2]
    have hp2 := (hk2 p hpA hpK).trans hp
    have hA2 : H2 A = some (.cells (hv.set to (.sc (.slice none 0 0))) 42) := by rw [hH2, upd_same]
    have hK2 : H2 K = some (.cells ((st.map fun r => B r.isSome).set to (B true)) 4) := by rw [hH2, upd_ne _ _ (Ne.symm hAK), upd_same]
    clear hH2
    obtain ⟨o', c', H3, n3, e3, o3, le3, f3, k3⟩ := app33 (H := H2) (n := n) (y := .osl b 0 xs.length cc) (xs := xs) (by
      have hb2 := (hk2 b (fun e => by have := (hor b rfl).1; rw [e, w.rA] at this; cases this) (fun e => by have := (hor b rfl).1; rw [e, w.rK] at this; cases this)).trans hb
      simp only [elemsOf, hb2]
      rw [if_pos (by rw [List.length_append, length_encs (e := c4)]; omega), List.drop_zero, List.take_left' (by rw [length_encs (e := c4)])]) (by omega)
    have hA3 := (k3 A hAn).trans hA2
    have hp3 := (k3 p hpn).trans hp2
    have hK3 := (k3 K hKn).trans hK2
    have hcs := cellsOf_slc o' xs.length c'
    have hco := cellOk_slc o' xs.length c'
    generalize hval : slc o' xs.length c' = val at e3 hcs hco
    have hs3 := cut_set (l := hv.set to (.sc (.slice none 0 0))) (k := to) (v := val) (by simpa using hvl2)
    rw [List.set_set] at hs3
    refine Stk.rgD [.rd [], .rd [], .rd [], .rd [p], .rd [], .rd [], .rd [], .rd [], .rd [p], .rd [], .rd [A], .rd [A], .rd [], .mem [] n, .rd [A], .mem [A] n] none (by kernel_rfl) (drawOk2_ren [p, A] (by simp; omega) n [.rd [], .rd [], .rd [], .rd [0], .rd [], .rd [], .rd [], .rd [], .rd [0], .rd [], .rd [1], .rd [1], .rd [], .mem [] 0, .rd [1], .mem [1] 0] rfl (by rfl)) rfl (by simp [below]; omega) rfl ?_
    iterate 30 (try (refine evS_sound (f := 1) ?_; simp [hp2, hA2, partOf, htoi, htol, htol2, hvl2, e3, hA3, hcs, hco, hs3]))
    refine ⟨k3, ?_⟩
    iterate 4 (try (refine evS_sound (f := 1) ?_; simp [hp2, hA2, partOf, htoi, htol, htol2, hvl2, e3, hA3, hcs, hco, hs3]))
    refine ⟨fun j h1 h2 h3 => absurd h3 h2, ?_⟩
    iterate 16 (try (refine evS_sound (f := 1) ?_; simp [hp3, hpA, Ne.symm hpA, partOf, splice]))
    subst hval
    refine fin _ _ _ o' c' le3 f3 (o3.mono fun i hi => ?_) (by simp [Ne.symm hpA]) (by simp [Ne.symm hpK, Ne.symm hAK, hK3]) (by simp [hS]) (fun j g1 g2 g3 g4 => by simp [g2, g4, k3 j g1, hk2 j g2 g3])
    have := f3 i hi
    rw [upd_ne _ _ (by omega), upd_ne _ _ (by omega)]

theorem come33b {c : api_Code} {f : api_Func} {p A K : Nat} {role : Nat → Option Role} {H : Mem} {n : Nat} {s : LkS} (w : Lkr c f p A K role H n s) {S : Nat} (hS : f.Slots = S) (hSl : S ≤ 8192) (hcl : f.Code.length ≤ 2 ^ 20) (to : Nat) {ob cc : Option Nat} {xs : M.Row} (hob : OwnC H 4 1 c4 ob cc xs) (hor : ∀ i, ob = some i → role i = none ∧ i < n) (h1 : to < f.Code.length) (h2 : xs.length ≤ S) {old : M.Row} (hr0 : s.st[to]? = some (some old)) (h3 : ¬ old.length = xs.length) :
    RunQ Try.prog T.T 33 [.own p 0, I to, slc ob xs.length cc] H n (fun r H' n' => r = .tup [] ∧ LRes c f p A K role H n H' n' (comeL S s to xs)) := by
  have hp := w.hp
  obtain ⟨hv, hA, hvl, hrow⟩ := w.hA
  have hK := w.hK
  have hpn : p < n := w.lt p (by rw [w.rp]; simp)
  have hAn : A < n := w.lt A (by rw [w.rA]; simp)
  have hKn : K < n := w.lt K (by rw [w.rK]; simp)
  have hpA : p ≠ A := fun e => by have h1 := w.rp; rw [e, w.rA] at h1; cases h1
  have hpK : p ≠ K := fun e => by have h1 := w.rp; rw [e, w.rK] at h1; cases h1
  have hAK : A ≠ K := fun e => by have h1 := w.rA; rw [e, w.rK] at h1; cases h1
  have hsl := w.sl
  obtain ⟨st, ok, more⟩ := s
  simp only at hp hvl hrow hK hsl
  -- the flag
  have bad : ∀ (H' : Mem) (n' : Nat), n' = n → H' p = some (.cells (lkC c f A K st.length false more) 75) → (∀ j, j ≠ p → H' j = H j) → LRes c f p A K role H n H' n' ⟨st, false, more⟩ := fun H' n' e h1 h2 => by
    subst e
    exact ⟨Nat.le_refl _, fun j _ hj => h2 j (fun e => by rw [e, w.rp] at hj; cases hj), role, fun _ _ => rfl, w.far (Nat.le_refl _) h1 (fun j _ hj _ => h2 j hj)⟩
  have h1i : (to : Int) < f.Code.length := by omega
  have h1j : ¬ (f.Code.length : Int) ≤ to := by omega
  have hneg : ¬ (to : Int) < 0 := by omega
  have h2i : ¬ (S : Int) < xs.length := by omega
  have h20 : ¬ (S : Int) < 0 := by omega
  have htol : to < st.length := by omega
  have htoi : (to : Int) < st.length := by omega
  have hx : ∀ x, st[to]? = some x → st[to] = x := fun x hx => by rw [List.getElem?_eq_getElem htol] at hx; simpa using hx
  simp only at hr0
  have hg := hx _ hr0
  obtain ⟨v0, hv0, hrow0⟩ := hrow to _ hr0
  have hvl2 : to < hv.length := by omega
  have htol1 : to + 1 ≤ st.length := htol
  have htol2 : to + 1 ≤ hv.length := by omega
  obtain ⟨io, co, rfl, hio, hior⟩ := hrow0
  have hpv : partOf T.T 42 hv to = some (slc io old.length co) := by simp only [partOf, T.t42]; simpa [aggK] using hv0
  have hKv : partOf T.T 4 (st.map fun r => B r.isSome) to = some (B true) := by
    simp only [partOf, T.t4]
    simp [aggK, htol, hg]
  have hc : comeL S ⟨st, ok, more⟩ to xs = ⟨st, false, more⟩ := by
    unfold M.comeL M.comeP; rw [if_pos h2]; simp [hr0, h3]
  rw [hc]
  have h3i : ¬ (old.length : Int) = xs.length := by omega
  refine RunQ.ev 0 Try.func33 rfl rfl rfl rfl rfl fun C hr hn => ?_
  cases ob with
  | none =>
    have hx0 : xs = [] := hob
    subst hx0
    have h3j : ¬ old = [] := by simpa using h3i
    obtain ⟨i, hi⟩ := ownC_open hio (k := 0) (List.length_pos_iff.2 h3j)
    subst hi
    simp at hpv
    iterate 45 (try (refine evS_sound (f := 2) ?_; simp [hp, hK, hA, h1i, h1j, hneg, hS, h20, htoi, htol, hg, hpv, hKv, h3j, splice]))
    exact hr _ _ _ (.tup []) (by simp) ⟨rfl, bad _ _ rfl (by simp [hS]) (fun j hj => by simp [hj])⟩
  | some b =>
    cases io with
    | none =>
      have ho0 : old = [] := hio
      subst ho0
      have h3j : ¬ (0 : Int) = xs.length := by simpa using h3i
      simp at hpv
      iterate 45 (try (refine evS_sound (f := 2) ?_; simp [hp, hK, hA, h1i, h1j, hneg, hS, h2i, htoi, htol, hg, hpv, hKv, h3j, splice]))
      exact hr _ _ _ (.tup []) (by simp) ⟨rfl, bad _ _ rfl (by simp [hS]) (fun j hj => by simp [hj])⟩
    | some i =>
      simp at hpv
      iterate 45 (try (refine evS_sound (f := 2) ?_; simp [hp, hK, hA, h1i, h1j, hneg, hS, h2i, htoi, htol, hg, hpv, hKv, h3i, splice]))
      exact hr _ _ _ (.tup []) (by simp) ⟨rfl, bad _ _ rfl (by simp [hS]) (fun j hj => by simp [hj])⟩

theorem come33c {c : api_Code} {f : api_Func} {p A K : Nat} {role : Nat → Option Role} {H : Mem} {n : Nat} {s : LkS} (w : Lkr c f p A K role H n s) {S : Nat} (hS : f.Slots = S) (hSl : S ≤ 8192) (hcl : f.Code.length ≤ 2 ^ 20) (to : Nat) {ob cc : Option Nat} {xs : M.Row} (hob : OwnC H 4 1 c4 ob cc xs) (hor : ∀ i, ob = some i → role i = none ∧ i < n) (h1 : to < f.Code.length) (h2 : xs.length ≤ S) {old : M.Row} (hr0 : s.st[to]? = some (some old)) (h3 : old.length = xs.length) (hx0 : xs = []) :
    RunQ Try.prog T.T 33 [.own p 0, I to, slc ob xs.length cc] H n (fun r H' n' => r = .tup [] ∧ LRes c f p A K role H n H' n' (comeL S s to xs)) := by
  have hp := w.hp
  obtain ⟨hv, hA, hvl, hrow⟩ := w.hA
  have hK := w.hK
  have hpn : p < n := w.lt p (by rw [w.rp]; simp)
  have hAn : A < n := w.lt A (by rw [w.rA]; simp)
  have hKn : K < n := w.lt K (by rw [w.rK]; simp)
  have hpA : p ≠ A := fun e => by have h1 := w.rp; rw [e, w.rA] at h1; cases h1
  have hpK : p ≠ K := fun e => by have h1 := w.rp; rw [e, w.rK] at h1; cases h1
  have hAK : A ≠ K := fun e => by have h1 := w.rA; rw [e, w.rK] at h1; cases h1
  have hsl := w.sl
  obtain ⟨st, ok, more⟩ := s
  simp only at hp hvl hrow hK hsl
  -- the flag
  have bad : ∀ (H' : Mem) (n' : Nat), n' = n → H' p = some (.cells (lkC c f A K st.length false more) 75) → (∀ j, j ≠ p → H' j = H j) → LRes c f p A K role H n H' n' ⟨st, false, more⟩ := fun H' n' e h1 h2 => by
    subst e
    exact ⟨Nat.le_refl _, fun j _ hj => h2 j (fun e => by rw [e, w.rp] at hj; cases hj), role, fun _ _ => rfl, w.far (Nat.le_refl _) h1 (fun j _ hj _ => h2 j hj)⟩
  have h1i : (to : Int) < f.Code.length := by omega
  have h1j : ¬ (f.Code.length : Int) ≤ to := by omega
  have hneg : ¬ (to : Int) < 0 := by omega
  have h2i : ¬ (S : Int) < xs.length := by omega
  have h20 : ¬ (S : Int) < 0 := by omega
  have htol : to < st.length := by omega
  have htoi : (to : Int) < st.length := by omega
  have hx : ∀ x, st[to]? = some x → st[to] = x := fun x hx => by rw [List.getElem?_eq_getElem htol] at hx; simpa using hx
  simp only at hr0
  have hg := hx _ hr0
  obtain ⟨v0, hv0, hrow0⟩ := hrow to _ hr0
  have hvl2 : to < hv.length := by omega
  have htol1 : to + 1 ≤ st.length := htol
  have htol2 : to + 1 ≤ hv.length := by omega
  obtain ⟨io, co, rfl, hio, hior⟩ := hrow0
  have hpv : partOf T.T 42 hv to = some (slc io old.length co) := by simp only [partOf, T.t42]; simpa [aggK] using hv0
  have hKv : partOf T.T 4 (st.map fun r => B r.isSome) to = some (B true) := by
    simp only [partOf, T.t4]
    simp [aggK, htol, hg]
  have ho0 : old = [] := List.length_eq_zero_iff.1 (by rw [h3, hx0]; rfl)
  subst hx0; subst ho0
  have triv : comeL S ⟨st, ok, more⟩ to [] = ⟨st, ok, more⟩ := by
    unfold M.comeL M.comeP; rw [if_pos h2]
    simp only [hr0, List.length_nil, if_true]
    rw [show joinR [] [] = [] from rfl, M.set_same _ _ _ hr0]
    simp
  have self : LRes c f p A K role H n H n ⟨st, ok, more⟩ := ⟨Nat.le_refl _, fun _ _ _ => rfl, role, fun _ _ => rfl, w⟩
  rw [triv]
  refine RunQ.ev 0 Try.func33 rfl rfl rfl rfl rfl fun C hr hn => ?_
  cases ob with
  | none =>
    cases io with
    | none =>
      simp at hpv
      iterate 45 (try (refine evS_sound (f := 2) ?_; simp [hp, hK, hA, h1i, h1j, hneg, hS, h20, htoi, htol, hg, hpv, hKv, splice]))
      refine Stk.loop 4 (fun μ t H' n' => t 2 = .sc (.slice none 0 0) ∧ t 6 = I 0 ∧ H' = H ∧ n' = n) 1 ⟨by simp, by simp, rfl, rfl⟩ ?_
      rintro J hJ μ t H' n' ⟨t2, t6, rfl, rfl⟩
      iterate 10 (try (refine evS_sound (f := 2) ?_; simp [t2, t6]))
      exact hn _ _ _ (.tup []) (by simp) ⟨rfl, self⟩
    | some i =>
      simp at hpv
      iterate 45 (try (refine evS_sound (f := 2) ?_; simp [hp, hK, hA, h1i, h1j, hneg, hS, h20, htoi, htol, hg, hpv, hKv, splice]))
      refine Stk.loop 4 (fun μ t H' n' => t 2 = .sc (.slice none 0 0) ∧ t 6 = I 0 ∧ H' = H ∧ n' = n) 1 ⟨by simp, by simp, rfl, rfl⟩ ?_
      rintro J hJ μ t H' n' ⟨t2, t6, rfl, rfl⟩
      iterate 10 (try (refine evS_sound (f := 2) ?_; simp [t2, t6]))
      exact hn _ _ _ (.tup []) (by simp) ⟨rfl, self⟩
  | some b =>
    cases io with
    | none =>
      simp at hpv
      iterate 45 (try (refine evS_sound (f := 2) ?_; simp [hp, hK, hA, h1i, h1j, hneg, hS, h20, htoi, htol, hg, hpv, hKv, splice]))
      refine Stk.loop 4 (fun μ t H' n' => t 2 = .osl b 0 0 cc ∧ t 6 = I 0 ∧ H' = H ∧ n' = n) 1 ⟨by simp, by simp, rfl, rfl⟩ ?_
      rintro J hJ μ t H' n' ⟨t2, t6, rfl, rfl⟩
      iterate 10 (try (refine evS_sound (f := 2) ?_; simp [t2, t6]))
      exact hn _ _ _ (.tup []) (by simp) ⟨rfl, self⟩
    | some i =>
      simp at hpv
      iterate 45 (try (refine evS_sound (f := 2) ?_; simp [hp, hK, hA, h1i, h1j, hneg, hS, h20, htoi, htol, hg, hpv, hKv, splice]))
      refine Stk.loop 4 (fun μ t H' n' => t 2 = .osl b 0 0 cc ∧ t 6 = I 0 ∧ H' = H ∧ n' = n) 1 ⟨by simp, by simp, rfl, rfl⟩ ?_
      rintro J hJ μ t H' n' ⟨t2, t6, rfl, rfl⟩
      iterate 10 (try (refine evS_sound (f := 2) ?_; simp [t2, t6]))
      exact hn _ _ _ (.tup []) (by simp) ⟨rfl, self⟩

theorem come33d {c : api_Code} {f : api_Func} {p A K : Nat} {role : Nat → Option Role} {H : Mem} {n : Nat} {s : LkS} (w : Lkr c f p A K role H n s) {S : Nat} (hS : f.Slots = S) (hSl : S ≤ 8192) (hcl : f.Code.length ≤ 2 ^ 20) (to : Nat) {ob cc : Option Nat} {xs : M.Row} (hob : OwnC H 4 1 c4 ob cc xs) (hor : ∀ i, ob = some i → role i = none ∧ i < n) (h1 : to < f.Code.length) (h2 : xs.length ≤ S) {old : M.Row} (hr0 : s.st[to]? = some (some old)) (h3 : old.length = xs.length) (hx0 : 0 < xs.length) :
    RunQ Try.prog T.T 33 [.own p 0, I to, slc ob xs.length cc] H n (fun r H' n' => r = .tup [] ∧ LRes c f p A K role H n H' n' (comeL S s to xs)) := by
  have hp := w.hp
  obtain ⟨hv, hA, hvl, hrow⟩ := w.hA
  have hK := w.hK
  have hpn : p < n := w.lt p (by rw [w.rp]; simp)
  have hAn : A < n := w.lt A (by rw [w.rA]; simp)
  have hKn : K < n := w.lt K (by rw [w.rK]; simp)
  have hpA : p ≠ A := fun e => by have h1 := w.rp; rw [e, w.rA] at h1; cases h1
  have hpK : p ≠ K := fun e => by have h1 := w.rp; rw [e, w.rK] at h1; cases h1
  have hAK : A ≠ K := fun e => by have h1 := w.rA; rw [e, w.rK] at h1; cases h1
  have hsl := w.sl
  obtain ⟨st, ok, more⟩ := s
  simp only at hp hvl hrow hK hsl
  -- the flag
  have bad : ∀ (H' : Mem) (n' : Nat), n' = n → H' p = some (.cells (lkC c f A K st.length false more) 75) → (∀ j, j ≠ p → H' j = H j) → LRes c f p A K role H n H' n' ⟨st, false, more⟩ := fun H' n' e h1 h2 => by
    subst e
    exact ⟨Nat.le_refl _, fun j _ hj => h2 j (fun e => by rw [e, w.rp] at hj; cases hj), role, fun _ _ => rfl, w.far (Nat.le_refl _) h1 (fun j _ hj _ => h2 j hj)⟩
  have h1i : (to : Int) < f.Code.length := by omega
  have h1j : ¬ (f.Code.length : Int) ≤ to := by omega
  have hneg : ¬ (to : Int) < 0 := by omega
  have h2i : ¬ (S : Int) < xs.length := by omega
  have h20 : ¬ (S : Int) < 0 := by omega
  have htol : to < st.length := by omega
  have htoi : (to : Int) < st.length := by omega
  have hx : ∀ x, st[to]? = some x → st[to] = x := fun x hx => by rw [List.getElem?_eq_getElem htol] at hx; simpa using hx
  simp only at hr0
  have hg := hx _ hr0
  obtain ⟨v0, hv0, hrow0⟩ := hrow to _ hr0
  have hvl2 : to < hv.length := by omega
  have htol1 : to + 1 ≤ st.length := htol
  have htol2 : to + 1 ≤ hv.length := by omega
  obtain ⟨io, co, rfl, hio, hior⟩ := hrow0
  have hpv : partOf T.T 42 hv to = some (slc io old.length co) := by simp only [partOf, T.t42]; simpa [aggK] using hv0
  have hKv : partOf T.T 4 (st.map fun r => B r.isSome) to = some (B true) := by
    simp only [partOf, T.t4]
    simp [aggK, htol, hg]
  obtain ⟨b, hbo⟩ := ownC_open hob hx0
  subst hbo
  obtain ⟨i, hio'⟩ := ownC_open hio (k := 0) (by omega)
  subst hio'
  obtain ⟨ys, hb, _⟩ := hob
  obtain ⟨yo, hi, hcc⟩ := hio
  have hir := hior i rfl
  have hbr := (hor b rfl).1
  have hip : i ≠ p := fun e => by rw [e, w.rp] at hir; cases hir
  have hiA : i ≠ A := fun e => by rw [e, w.rA] at hir; cases hir
  have hbi : b ≠ i := fun e => by rw [e, hir] at hbr; cases hbr
  have hbp : b ≠ p := fun e => by rw [e, w.rp] at hbr; cases hbr
  have h3i : (old.length : Int) = xs.length := by omega
  have hc : comeL S ⟨st, ok, more⟩ to xs = ⟨st.set to (some (joinR old xs)), ok, more || decide (joinR old xs ≠ old)⟩ := by
    unfold M.comeL M.comeP; rw [if_pos h2]; simp [hr0, h3]
  rw [hc]
  have hvi : hv[to]? = some (.osl i 0 old.length co) := hv0
  simp at hpv
  refine RunQ.ev 0 Try.func33 rfl rfl rfl rfl rfl fun C hr hn => ?_
  iterate 45 (try (refine evS_sound (f := 2) ?_; simp [hp, hK, hA, h1i, h1j, hneg, hS, h2i, htoi, htol, hg, hpv, hKv, h3i, splice]))
  refine Stk.loop 4 (fun μ t H' n' => ∃ k : Nat, k ≤ xs.length ∧ μ = xs.length - k ∧ t 0 = .own p 0 ∧ t 1 = I to ∧ t 2 = .osl b 0 xs.length cc ∧ t 6 = I k ∧
    H' i = some (.cells (encs c4 (mixR k old xs) ++ yo) 4) ∧ H' p = some (.cells (lkC c f A K st.length ok (more || decide (mixR k old xs ≠ old))) 75) ∧ (∀ j, j ≠ i → j ≠ p → H' j = H j) ∧ n' = n) xs.length
    ⟨0, by omega, rfl, by simp, by simp, by simp, by simp, hi, by simp [mixR, hp], fun _ _ _ => rfl, rfl⟩ ?_
  rintro J hJ μ t H' n' ⟨k, hk, rfl, t0, t1, t2, t6, hi', hp', hko, rfl⟩
  have hA' : H' A = some (.cells hv 42) := by rw [hko A (Ne.symm hiA) (Ne.symm hpA), hA]
  have hb' : H' b = some (.cells (encs c4 xs ++ ys) 4) := by rw [hko b hbi hbp, hb]
  have hmix := mixR_len k old xs
  by_cases hlt : k < xs.length
  · have hlti : (k : Int) < xs.length := by omega
    have hlto : (k : Int) < old.length := by omega
    have hlt2 : k < old.length := by omega
    have wk := wrap_succ k (by omega)
    obtain ⟨y, hy⟩ : ∃ y, xs[k]? = some y := ⟨_, List.getElem?_eq_getElem hlt⟩
    obtain ⟨x, hxo⟩ : ∃ x, old[k]? = some x := ⟨_, List.getElem?_eq_getElem hlt2⟩
    have hxs : partOf T.T 4 (encs c4 xs ++ ys) k = some (B y) := by
      have hc := cell_own (e := c4) (z := 1) xs ys k 0 hlt (by omega)
      have : xs[k] = y := by rw [List.getElem?_eq_getElem hlt] at hy; simpa using hy
      rw [this] at hc
      simp only [partOf, T.t4]
      simpa [aggK] using hc
    have hxm : partOf T.T 4 (encs c4 (mixR k old xs) ++ yo) k = some (B x) := by
      have hlt3 : k < (mixR k old xs).length := by omega
      have hc := cell_own (e := c4) (z := 1) (mixR k old xs) yo k 0 hlt3 (by omega)
      have : (mixR k old xs)[k] = x := by have h := mixR_at k old xs; rw [hxo, List.getElem?_eq_getElem hlt3] at h; simpa using h
      rw [this] at hc
      simp only [partOf, T.t4]
      simpa [aggK] using hc
    have hstep := mixR_step k old xs x y hxo hy
    have hend : ∀ (t' : Nat → AV) (H2 : Mem), (∀ j, j ∈ [0, 1, 2] → t' j = t j) → t' 6 = I ((k + 1 : Nat) : Int) → H2 i = some (.cells (encs c4 (mixR (k + 1) old xs) ++ yo) 4) → H2 p = some (.cells (lkC c f A K st.length ok (more || decide (mixR (k + 1) old xs ≠ old))) 75) → (∀ j, j ≠ i → j ≠ p → H2 j = H j) → J (xs.length - (k + 1)) t' H2 n' := fun t' H2 ht h6 hH1 hH2 hk2 =>
      hJ _ _ _ _ ⟨k + 1, hlt, rfl, by rw [ht 0 (by simp), t0], by rw [ht 1 (by simp), t1], by rw [ht 2 (by simp), t2], h6, hH1, hH2, hk2, rfl⟩
    cases y with
    | false =>
      rw [if_neg (by simp)] at hstep
      iterate 14 (try (refine evS_sound (f := 4) ?_; simp [t0, t1, t2, t6, hb', hlt, hlti, hxs, wk]))
      exact ⟨_, by omega, hend _ _ (by simp [upd]) (by simp) (by rw [hstep]; exact hi') (by rw [hstep]; exact hp') hko⟩
    | true =>
      cases x with
      | true =>
        rw [if_neg (by simp)] at hstep
        iterate 14 (try (refine evS_sound (f := 4) ?_; simp [t0, t1, t2, t6, hb', hi', hp', hA', hpv, htoi, htol, hlt, hlti, hlto, hlt2, hxs, hxm, wk]))
        exact ⟨_, by omega, hend _ _ (by simp [upd]) (by simp) (by rw [hstep]; exact hi') (by rw [hstep]; exact hp') hko⟩
      | false =>
        rw [if_pos ⟨rfl, rfl⟩] at hstep
        have hne : mixR (k + 1) old xs ≠ old := mixR_new hxo hy
        have hlt3 : k < (mixR k old xs).length := by omega
        have hsp : splice (encs c4 (mixR k old xs) ++ yo) k [B true] = encs c4 (mixR (k + 1) old xs) ++ yo := by
          rw [hstep]
          have := splice_own (e := c4) (z := 1) (mixR k old xs) yo k hlt3 true
          rw [Nat.mul_one] at this; exact this
        have hll : k + 1 ≤ (encs c4 (mixR k old xs) ++ yo).length := by rw [List.length_append, length_encs (e := c4)]; omega
        iterate 18 (try (refine evS_sound (f := 4) ?_; simp [t0, t1, t2, t6, hb', hi', hp', hA', hip, Ne.symm hip, hiA, Ne.symm hiA, hpv, htoi, htol, hlt, hlti, hlto, hlt2, hxs, hxm, wk, hll, -List.length_append]))
        exact ⟨_, by omega, hend _ _ (by simp [upd]) (by simp) (by have h := hsp; unfold splice at h; simpa [hip, Ne.symm hip] using h) (by simp [hip, Ne.symm hip, hne, splice, hS]) (fun j hj1 hj2 => by simp [hj1, hj2, hko j hj1 hj2])⟩
  · have hke : k = xs.length := by omega
    subst hke
    have hfull := mixR_full xs.length old xs h3 (by omega)
    rw [hfull] at hi' hp'
    iterate 10 (try (refine evS_sound (f := 2) ?_; simp [t2, t6]))
    refine hn _ _ _ (.tup []) (by simp) ⟨rfl, Nat.le_refl _, fun j _ hro => hko j (fun e => by rw [e, hir] at hro; cases hro) (fun e => by rw [e, w.rp] at hro; cases hro), role, fun _ _ => rfl, ?_⟩
    exact w.rowSet hr0 ⟨hv, hA, hvi⟩ hir (M.joinR_len h3) hcc hi' hp' hko

theorem come_L {c : api_Code} {f : api_Func} {p A K : Nat} {role : Nat → Option Role} {H : Mem} {n : Nat} {s : LkS} (w : Lkr c f p A K role H n s) {S : Nat} (hS : f.Slots = S) (hSl : S ≤ 8192) (hcl : f.Code.length ≤ 2 ^ 20) (to : Nat) {ob cc : Option Nat} {xs : M.Row} (hob : OwnC H 4 1 c4 ob cc xs) (hor : ∀ i, ob = some i → role i = none ∧ i < n) :
    RunQ Try.prog T.T 33 [.own p 0, I to, slc ob xs.length cc] H n (fun r H' n' => r = .tup [] ∧ LRes c f p A K role H n H' n' (comeL S s to xs)) := by
  by_cases h12 : to < f.Code.length ∧ xs.length ≤ S
  · obtain ⟨h1, h2⟩ := h12
    have hsl := w.sl
    obtain ⟨r0, hr0⟩ : ∃ r0, s.st[to]? = some r0 := ⟨_, List.getElem?_eq_getElem (by omega)⟩
    cases r0 with
    | none => exact come33u w hS hSl hcl to hob hor h1 h2 hr0
    | some old =>
      by_cases h3 : old.length = xs.length
      · by_cases hx : xs = []
        · exact come33c w hS hSl hcl to hob hor h1 h2 hr0 h3 hx
        · exact come33d w hS hSl hcl to hob hor h1 h2 hr0 h3 (List.length_pos_iff.2 hx)
      · exact come33b w hS hSl hcl to hob hor h1 h2 hr0 h3
  · exact come33a w hS hSl hcl to hob hor h12
end Go.Proofs.Ytcdafogfmijcpaa.Flo
