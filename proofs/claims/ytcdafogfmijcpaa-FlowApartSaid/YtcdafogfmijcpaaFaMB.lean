/-
  The walker's memory.
-/
import Derived.Test.YtcdafogfmijcpaaFaMA
import Derived.Test.YtcdafogfmijcpaaAhO
import Derived.Test.YtcdafogfmijcpaaAhC
import Derived.Test.YtcdafogfmijcpaaAhE
import Derived.Test.YtcdafogfmijcpaaAhM
namespace Go.Proofs.Ytcdafogfmijcpaa.Flo
open Go.Proofs.YtcdafogfmijcpaaW.Ah
open M (api_Code api_Func api_Inst c3 c4 c9 c22 c26 c36 c41 c42 c44 c47 c51 StF)
set_option maxRecDepth 8000
set_option linter.unusedVariables false
set_option linter.unusedSimpArgs false
attribute [local simp] T.t2 T.t3 T.t4 T.t9 T.t22 T.t23 T.t24 T.t26 T.t29 T.t36 T.t39 T.t41 T.t42 T.t44 T.t47 T.t53 T.t55 Op.maxDepth List.range List.range.loop
attribute [-simp] appendAV

abbrev cP : Nat → List AV := fun k => [.sc (.int .i64 (k : Int))]
instance : Enc cP 1 := ⟨fun _ => rfl⟩

/-- What a block is for. -/
inductive Role
  | str
  | tab
  | kn
  | todo
  | row (q : Nat)

def RowAt (H : Mem) (role : Nat → Option Role) (q : Nat) (v : AV) : Option M.Row → Prop
  | none => v = .sc (.slice none 0 0)
  | some x => ∃ i cc ys, v = .osl i 0 x.length cc ∧ H i = some (.cells (encs c4 x ++ ys) 4) ∧ role i = some (.row q) ∧ ∀ k, cc = some k → x.length ≤ k ∧ k * 1 ≤ (encs c4 x ++ ys).length

abbrev wkC (c : api_Code) (f : api_Func) (A K m : Nat) (td : AV) (bad : Bool) : List AV :=
  [.ssl (encs c41 c.Funs) c.Funs.length false, .ssl (encs c51 c.Texts) c.Texts.length false, .ssl (encs c47 c.Tables) c.Tables.length false,
   .sc (.string f.Name), I f.Params, I f.Slots, .ssl (encs c44 f.Code) f.Code.length false, .osl A 0 m (some m), .osl K 0 m (some m), td, B bad]

structure Wkr (c : api_Code) (f : api_Func) (p A K : Nat) (role : Nat → Option Role) (H : Mem) (n : Nat) (st : StF) (todo : List Nat) (bad : Bool) : Prop where
  hp : ∃ ot, H p = some (.cells (wkC c f A K st.length (slv ot todo.length) bad) 55) ∧ YtcdafogfmijcpaaW.Ah.Own H 3 cP ot todo ∧ ∀ i, ot = some i → role i = some .todo
  hA : ∃ hv, H A = some (.cells hv 42) ∧ hv.length = st.length ∧ ∀ (q : Nat) (r : Option M.Row), st[q]? = some r → ∃ v, hv[q]? = some v ∧ RowAt H role q v r
  hK : H K = some (.cells (st.map fun r => B r.isSome) 4)
  rp : role p = some .str
  rA : role A = some .tab
  rK : role K = some .kn
  lt : ∀ j, role j ≠ none → j < n
  sl : st.length = f.Code.length

/-- The walker is led on. -/
def WRes (c : api_Code) (f : api_Func) (p A K : Nat) (role : Nat → Option Role) (H : Mem) (n : Nat) (H' : Mem) (n' : Nat) (st : StF) (todo : List Nat) (bad : Bool) : Prop :=
  n ≤ n' ∧ (∀ j, j < n → role j = none → H' j = H j) ∧ ∃ role', (∀ j, j < n → role' j = role j) ∧ Wkr c f p A K role' H' n' st todo bad

theorem WRes.trans {c : api_Code} {f : api_Func} {p A K : Nat} {role : Nat → Option Role} {H H1 H2 : Mem} {n n1 n2 : Nat} {st2 : StF} {todo2 : List Nat} {b2 : Bool} {role1 : Nat → Option Role}
    (hn : n ≤ n1) (hk : ∀ j, j < n → role j = none → H1 j = H j) (hr : ∀ j, j < n → role1 j = role j) (h : WRes c f p A K role1 H1 n1 H2 n2 st2 todo2 b2) : WRes c f p A K role H n H2 n2 st2 todo2 b2 := by
  obtain ⟨g1, g2, role2, g3, g4⟩ := h
  exact ⟨Nat.le_trans hn g1, fun j h1 h2 => by rw [g2 j (by omega) (by rw [hr j h1]; exact h2), hk j h1 h2], role2, fun j h1 => by rw [g3 j (by omega), hr j h1], g4⟩

theorem RowAt.keep {H H' : Mem} {role : Nat → Option Role} {q : Nat} {v : AV} {r : Option M.Row} (h : RowAt H role q v r) (hk : ∀ i, role i = some (.row q) → H' i = H i) : RowAt H' role q v r := by
  cases r with
  | none => exact h
  | some x =>
    obtain ⟨i, cc, ys, h1, h2, h3, h4⟩ := h
    exact ⟨i, cc, ys, h1, by rw [hk i h3, h2], h3, h4⟩

/-- More blocks; nothing of the walker is written. -/
theorem Wkr.far {c : api_Code} {f : api_Func} {p A K : Nat} {role : Nat → Option Role} {H H' : Mem} {n n' : Nat} {st : StF} {todo : List Nat} {bad : Bool} (w : Wkr c f p A K role H n st todo bad) (hn : n ≤ n') (hk : ∀ j, j < n → role j ≠ none → H' j = H j) : Wkr c f p A K role H' n' st todo bad := by
  have k : ∀ j r, role j = some r → H' j = H j := fun j r hr => hk j (w.lt j (by rw [hr]; simp)) (by rw [hr]; simp)
  obtain ⟨ot, h1, h2, h3⟩ := w.hp
  obtain ⟨hv, h4, h5, h6⟩ := w.hA
  refine ⟨⟨ot, by rw [k p _ w.rp, h1], h2.mono fun i hi => k i _ (h3 i hi), h3⟩, ⟨hv, by rw [k A _ w.rA, h4], h5, fun q r hr => ?_⟩, by rw [k K _ w.rK, w.hK], w.rp, w.rA, w.rK, fun j hj => by have := w.lt j hj; omega, w.sl⟩
  obtain ⟨v, g1, g2⟩ := h6 q r hr
  exact ⟨v, g1, g2.keep fun i hi => k i _ hi⟩

/-- The flag is set. -/
theorem Wkr.flag {c : api_Code} {f : api_Func} {p A K : Nat} {role : Nat → Option Role} {H H' : Mem} {n : Nat} {st : StF} {todo : List Nat} {bad b2 : Bool} {cs : List AV} (w : Wkr c f p A K role H n st todo bad) (hcs : ∀ ot, H p = some (.cells (wkC c f A K st.length (slv ot todo.length) bad) 55) → cs = wkC c f A K st.length (slv ot todo.length) b2) (hp : H' p = some (.cells cs 55)) (hk : ∀ j, j ≠ p → H' j = H j) : Wkr c f p A K role H' n st todo b2 := by
  have k : ∀ j r, role j = some r → r ≠ .str → H' j = H j := fun j r hr hne => hk j (fun e => by subst e; rw [w.rp] at hr; cases hr; exact hne rfl)
  obtain ⟨ot, h1, h2, h3⟩ := w.hp
  obtain ⟨hv, h4, h5, h6⟩ := w.hA
  refine ⟨⟨ot, by rw [hp, hcs ot h1], h2.mono fun i hi => k i _ (h3 i hi) (by simp), h3⟩, ⟨hv, by rw [k A _ w.rA (by simp), h4], h5, fun q r hr => ?_⟩, by rw [k K _ w.rK (by simp), w.hK], w.rp, w.rA, w.rK, w.lt, w.sl⟩
  obtain ⟨v, g1, g2⟩ := h6 q r hr
  exact ⟨v, g1, g2.keep fun i hi => k i _ hi (by simp)⟩

/-- Places to go to are others. -/
theorem Wkr.list {c : api_Code} {f : api_Func} {p A K : Nat} {role role' : Nat → Option Role} {H H' : Mem} {n n' : Nat} {st : StF} {todo todo' : List Nat} {bad : Bool} {ot' : Option Nat} (w : Wkr c f p A K role H n st todo bad)
    (hn : n ≤ n') (hr : ∀ j, j < n → role' j = role j) (hlt : ∀ j, role' j ≠ none → j < n')
    (hp : H' p = some (.cells (wkC c f A K st.length (slv ot' todo'.length) bad) 55)) (ho : YtcdafogfmijcpaaW.Ah.Own H' 3 cP ot' todo') (hro : ∀ i, ot' = some i → role' i = some .todo)
    (hk : ∀ j, j < n → j ≠ p → role j ≠ some .todo → H' j = H j) : Wkr c f p A K role' H' n' st todo' bad := by
  have l : ∀ j r, role j = some r → j < n := fun j r h => w.lt j (by rw [h]; simp)
  have k : ∀ j r, role j = some r → r ≠ .str → r ≠ .todo → H' j = H j := fun j r h h1 h2 => hk j (l j r h) (fun e => by subst e; rw [w.rp] at h; cases h; exact h1 rfl) (fun e => by rw [h] at e; cases e; exact h2 rfl)
  have r' : ∀ j r, role j = some r → role' j = some r := fun j r h => by rw [hr j (l j r h), h]
  obtain ⟨hv, h4, h5, h6⟩ := w.hA
  refine ⟨⟨ot', hp, ho, hro⟩, ⟨hv, by rw [k A _ w.rA (by simp) (by simp), h4], h5, fun q r hq => ?_⟩, by rw [k K _ w.rK (by simp) (by simp), w.hK], r' p _ w.rp, r' A _ w.rA, r' K _ w.rK, hlt, w.sl⟩
  obtain ⟨v, g1, g2⟩ := h6 q r hq
  refine ⟨v, g1, ?_⟩
  cases r with
  | none => exact g2
  | some x =>
    obtain ⟨i, cc, ys, a1, a2, a3, a4⟩ := g2
    exact ⟨i, cc, ys, a1, by rw [k i _ a3 (by simp) (by simp), a2], r' i _ a3, a4⟩

/-- A row is another, where it is. -/
theorem Wkr.rowSet {c : api_Code} {f : api_Func} {p A K : Nat} {role : Nat → Option Role} {H H' : Mem} {n : Nat} {st : StF} {todo : List Nat} {bad : Bool} {q i : Nat} {x y : M.Row} {cc : Option Nat} {ys : List AV} (w : Wkr c f p A K role H n st todo bad)
    (hq : st[q]? = some (some x)) (hv : ∃ hv, H A = some (.cells hv 42) ∧ hv[q]? = some (.osl i 0 x.length cc)) (hi : role i = some (.row q)) (hl : y.length = x.length) (hcc : ∀ k, cc = some k → x.length ≤ k ∧ k * 1 ≤ (encs c4 x ++ ys).length)
    (hH : H' i = some (.cells (encs c4 y ++ ys) 4)) (hk : ∀ j, j ≠ i → H' j = H j) : Wkr c f p A K role H' n (st.set q (some y)) todo bad := by
  have k : ∀ j r, role j = some r → r ≠ .row q → H' j = H j := fun j r h h1 => hk j (fun e => by subst e; rw [hi] at h; cases h; exact h1 rfl)
  obtain ⟨ot, h1, h2, h3⟩ := w.hp
  obtain ⟨hv2, h4, h5, h6⟩ := w.hA
  obtain ⟨hv1, g1, g2⟩ := hv
  rw [g1] at h4; cases h4
  refine ⟨⟨ot, by rw [k p _ w.rp (by simp), h1, List.length_set], h2.mono fun j hj => k j _ (h3 j hj) (by simp), h3⟩, ⟨hv2, by rw [k A _ w.rA (by simp), g1], by rw [List.length_set]; exact h5, fun q' r hr => ?_⟩, ?_, w.rp, w.rA, w.rK, w.lt, by rw [List.length_set]; exact w.sl⟩
  · by_cases e : q' = q
    · subst e
      rw [List.getElem?_set_self (List.getElem?_eq_some_iff.1 hq).1] at hr
      cases hr
      exact ⟨_, g2, i, cc, ys, by rw [hl], hH, hi, fun k hk => by have h := hcc k hk; rw [List.length_append, length_encs (e := c4)] at h ⊢; omega⟩
    · rw [List.getElem?_set_ne (Ne.symm e)] at hr
      obtain ⟨v, a1, a2⟩ := h6 q' r hr
      exact ⟨v, a1, a2.keep fun j hj => k j _ hj (by intro h; cases h; exact e rfl)⟩
  · rw [k K _ w.rK (by simp), w.hK, List.map_set]
    congr 2
    rw [M.set_same]
    rw [List.getElem?_map, hq]; rfl

/-- A row that was not known. -/
theorem Wkr.rowNew {c : api_Code} {f : api_Func} {p A K : Nat} {role : Nat → Option Role} {H H' : Mem} {n n' : Nat} {st : StF} {todo : List Nat} {bad : Bool} {q i : Nat} {y : M.Row} {cc : Option Nat} {ys hv : List AV} (w : Wkr c f p A K role H n st todo bad)
    (hq : st[q]? = some none) (hi : n ≤ i) (hin : i < n') (hcc : ∀ k, cc = some k → y.length ≤ k ∧ k * 1 ≤ (encs c4 y ++ ys).length) (hA : H A = some (.cells hv 42)) (hA' : H' A = some (.cells (hv.set q (.osl i 0 y.length cc)) 42)) (hK' : H' K = some (.cells ((st.map fun r => B r.isSome).set q (B true)) 4))
    (hH : H' i = some (.cells (encs c4 y ++ ys) 4)) (hk : ∀ j, j < n → j ≠ A → j ≠ K → H' j = H j) : Wkr c f p A K (upd role i (some (.row q))) H' n' (st.set q (some y)) todo bad := by
  have l : ∀ j r, role j = some r → j < n := fun j r h => w.lt j (by rw [h]; simp)
  have k : ∀ j r, role j = some r → r ≠ .tab → r ≠ .kn → H' j = H j := fun j r h h1 h2 => hk j (l j r h) (fun e => by subst e; rw [w.rA] at h; cases h; exact h1 rfl) (fun e => by subst e; rw [w.rK] at h; cases h; exact h2 rfl)
  have r' : ∀ j r, role j = some r → upd role i (some (Role.row q)) j = some r := fun j r h => by rw [upd_ne _ _ (by have := l j r h; omega), h]
  obtain ⟨ot, h1, h2, h3⟩ := w.hp
  obtain ⟨hv2, h4, h5, h6⟩ := w.hA
  rw [hA] at h4; cases h4
  have hql := (List.getElem?_eq_some_iff.1 hq).1
  refine ⟨⟨ot, by rw [k p _ w.rp (by simp) (by simp), h1, List.length_set], h2.mono fun j hj => k j _ (h3 j hj) (by simp) (by simp), fun j hj => r' j _ (h3 j hj)⟩, ⟨_, hA', by rw [List.length_set, List.length_set]; exact h5, fun q' r hr => ?_⟩, ?_, r' p _ w.rp, r' A _ w.rA, r' K _ w.rK, fun j hj => ?_, by rw [List.length_set]; exact w.sl⟩
  · by_cases e : q' = q
    · subst e
      rw [List.getElem?_set_self hql] at hr
      cases hr
      exact ⟨_, List.getElem?_set_self (by rw [h5]; exact hql), i, cc, ys, rfl, hH, upd_same _ _ _, hcc⟩
    · rw [List.getElem?_set_ne (Ne.symm e)] at hr
      obtain ⟨v, a1, a2⟩ := h6 q' r hr
      refine ⟨v, by rw [List.getElem?_set_ne (Ne.symm e)]; exact a1, ?_⟩
      cases r with
      | none => exact a2
      | some x =>
        obtain ⟨j, cc, ys, b1, b2, b3, b4⟩ := a2
        exact ⟨j, cc, ys, b1, by rw [k j _ b3 (by simp) (by simp), b2], r' j _ b3, b4⟩
  · rw [hK', List.map_set]; rfl
  · by_cases e : j = i
    · subst e; exact hin
    · rw [upd_ne _ _ e] at hj
      have := w.lt j hj; omega

/-- A slice of one's own, whole, with room behind it. -/
def OwnB (H : Mem) (v : AV) (i : Nat) (xs : M.Row) : Prop := ∃ cc ys, v = .osl i 0 xs.length cc ∧ H i = some (.cells (encs c4 xs ++ ys) 4) ∧ ∀ k, cc = some k → xs.length ≤ k ∧ k * 1 ≤ (encs c4 xs ++ ys).length

theorem elems_keep {H H' : Mem} {z i o k : Nat} {cc : Option Nat} {r : Nat × List AV} (he : elemsOf H z (.osl i o k cc) = some r) (hk : H' i = H i) : elemsOf H' z (.osl i o k cc) = some r := by
  simp only [elemsOf] at he ⊢
  rw [hk]; exact he

theorem clone_app {H : Mem} {n : Nat} {i k o : Nat} {cc : Option Nat} {xs : M.Row} (he : elemsOf H 1 (.osl i o k cc) = some (k, encs c4 xs)) (hk : xs.length = k) (hi : i < n) (hl : k ≤ 2 ^ 20) :
    ∃ r H2 n2, appendAV T.T (upd H n (some (.cells [] 4))) (n + 1) 42 (.osl n 0 0 (some 0)) (.osl i o k cc) = some (r, H2, n2) ∧ ∃ j, OwnB H2 r j xs ∧ n ≤ j ∧ j < n2 ∧ ∀ q, q < n → H2 q = H q := by
  subst hk
  have hok : (encs c4 xs).all cellOk = true := all_encs M.ok4 xs
  have he2 := elems_keep (H' := upd H n (some (.cells [] 4))) he (upd_ne _ _ (by omega))
  have hel : elemsOf (upd H n (some (.cells [] 4))) 1 (.osl n 0 0 (some 0)) = some (0, []) := by simp [elemsOf]
  unfold appendAV
  simp only [T.t42, T.t4, hel, he2]
  rw [if_pos ⟨by simp [roomMax]; omega, by simp [roomMax]; omega, by decide, by decide, by decide, hok⟩]
  simp only [upd_same, if_true, Nat.zero_add, List.nil_append]
  by_cases h0 : xs.length = 0
  · have : xs = [] := List.length_eq_zero_iff.1 h0
    subst this
    rw [if_pos ⟨by simp [fitsC], by simp⟩]
    exact ⟨_, _, _, rfl, n, ⟨some 0, [], rfl, by simp [splice, encs], fun k hk => by cases hk; simp⟩, Nat.le_refl _, by omega, fun q hq => by rw [upd_ne _ _ (by omega), upd_ne _ _ (by omega)]⟩
  · rw [if_neg (fun h => h0 (by have := h.1; simpa [fitsC] using this)), if_neg (by omega)]
    exact ⟨_, _, _, rfl, n + 1, ⟨none, [], rfl, by rw [upd_same, List.append_nil], fun k hk => by cases hk⟩, by omega, by omega, fun q hq => by rw [upd_ne _ _ (by omega), upd_ne _ _ (by omega)]⟩

theorem clone47 {H : Mem} {n : Nat} {i k o : Nat} {cc : Option Nat} {xs : M.Row} (he : elemsOf H 1 (.osl i o k cc) = some (k, encs c4 xs)) (hk : xs.length = k) (hi : i < n) (hl : k ≤ 2 ^ 20) :
    RunQ Try.prog T.T 47 [.osl i o k cc] H n (fun r H' n' => ∃ j, OwnB H' r j xs ∧ n ≤ j ∧ j < n' ∧ ∀ q, q < n → H' q = H q) := by
  obtain ⟨r, H2, n2, e1, j, ⟨c2, ys, rfl, h1, h5⟩, h2, h3, h4⟩ := clone_app he hk hi hl
  refine RunQ.ev 99 Try.func47 rfl rfl rfl rfl rfl fun C hr hn => ?_
  simp [e1]
  exact hr _ _ _ (.osl j 0 xs.length c2) (by simp) ⟨j, ⟨c2, ys, rfl, h1, h5⟩, h2, h3, h4⟩
end Go.Proofs.Ytcdafogfmijcpaa.Flo
namespace Go.Proofs.Ytcdafogfmijcpaa.Flo
open Go.Proofs.YtcdafogfmijcpaaW.Ah
open M (api_Code api_Func api_Inst c3 c4 c9 c22 c26 c36 c41 c42 c44 c47 c51 StF)
set_option maxRecDepth 8000
set_option linter.unusedVariables false
set_option linter.unusedSimpArgs false
attribute [local simp] T.t2 T.t3 T.t4 T.t9 T.t22 T.t23 T.t24 T.t26 T.t29 T.t36 T.t39 T.t41 T.t42 T.t44 T.t47 T.t53 T.t55 Op.maxDepth List.range List.range.loop
attribute [-simp] appendAV

def findP (x : Nat) : List Nat → Nat → Int
  | [], _ => -1
  | y :: l, k => if x = y then (k : Int) else findP x l (k + 1)
theorem findP_at (x : Nat) : ∀ (l : List Nat) (k q : Nat), (∀ j, j < q → l[j]? ≠ some x) → q ≤ l.length → findP x l k = findP x (l.drop q) (k + q)
  | l, k, 0, _, _ => by simp
  | [], k, q + 1, _, h => by simp at h
  | y :: l, k, q + 1, h, hq => by
    have h0 := h 0 (by omega)
    rw [findP, if_neg (fun e => h0 (by rw [e]; rfl)), List.drop_succ_cons, findP_at x l (k + 1) q (fun j hj => by have := h (j + 1) (by omega); simpa using this) (by simpa using hq)]
    rw [show k + 1 + q = k + (q + 1) by omega]
theorem findP_has (x : Nat) : ∀ (l : List Nat) (k : Nat), decide (0 ≤ findP x l k) = l.contains x
  | [], k => by simp [findP]
  | y :: l, k => by
    rw [findP, List.contains_cons]
    by_cases h : x = y
    · rw [if_pos h]; simp [h]
    · rw [if_neg h, findP_has x l (k + 1)]; simp [h]

/-- The first k of two rows are put together. -/
def mixR : Nat → M.Row → M.Row → M.Row
  | 0, a, _ => a
  | k + 1, x :: a, y :: b => (x || y) :: mixR k a b
  | _ + 1, a, _ => a
theorem mixR_len : ∀ (k : Nat) (a b : M.Row), (mixR k a b).length = a.length
  | 0, a, b => rfl
  | k + 1, x :: a, y :: b => by rw [mixR, List.length_cons, List.length_cons, mixR_len k a b]
  | k + 1, [], _ => rfl
  | k + 1, _ :: _, [] => rfl
theorem mixR_full : ∀ (k : Nat) (a b : M.Row), a.length = b.length → a.length ≤ k → mixR k a b = M.joinR a b
  | 0, [], [], _, _ => rfl
  | 0, _ :: _, _, _, h => by simp at h
  | k + 1, [], [], _, _ => rfl
  | k + 1, x :: a, y :: b, h, h2 => by
    rw [mixR, mixR_full k a b (by simpa using h) (by simpa using h2)]; rfl
  | _, [], _ :: _, h, _ => by simp at h
  | _ + 1, _ :: _, [], h, _ => by simp at h
theorem mixR_at : ∀ (k : Nat) (a b : M.Row), (mixR k a b)[k]? = a[k]?
  | 0, a, b => rfl
  | k + 1, x :: a, y :: b => by rw [mixR, List.getElem?_cons_succ, List.getElem?_cons_succ, mixR_at k a b]
  | k + 1, [], _ => rfl
  | k + 1, _ :: _, [] => rfl
theorem mixR_step : ∀ (k : Nat) (a b : M.Row) (x y : Bool), a[k]? = some x → b[k]? = some y → mixR (k + 1) a b = if y = true ∧ x = false then (mixR k a b).set k true else mixR k a b
  | 0, x :: a, y :: b, u, v, h1, h2 => by
    simp only [List.getElem?_cons_zero, Option.some.injEq] at h1 h2
    subst h1; subst h2
    cases x <;> cases y <;> rfl
  | k + 1, x :: a, y :: b, u, v, h1, h2 => by
    have := mixR_step k a b u v (by simpa using h1) (by simpa using h2)
    rw [mixR, this]
    split <;> simp [mixR]
  | k, [], _, _, _, h1, _ => by simp at h1
  | k, _ :: _, [], _, _, _, h2 => by simp at h2
theorem mixR_new {k : Nat} {a b : M.Row} (h1 : a[k]? = some false) (h2 : b[k]? = some true) : mixR (k + 1) a b ≠ a := by
  intro e
  have h := mixR_step k a b false true h1 h2
  rw [if_pos ⟨rfl, rfl⟩, e] at h
  have : ((mixR k a b).set k true)[k]? = some true := List.getElem?_set_self (by rw [mixR_len]; exact (List.getElem?_eq_some_iff.1 h1).1)
  rw [← h, h1] at this
  cases this

theorem index58 (l : List Nat) (x : Nat) (hl : l.length ≤ 2 ^ 40) : RunF Try.prog T.T 58 [.ssl (encs cP l) l.length false, I x] (I (findP x l 0)) := by
  refine RunF.ev 99 Try.func58 rfl rfl rfl rfl rfl fun C hr hn => ?_
  simp
  refine Stk.loop 4 (fun μ t H n => ∃ q : Nat, q ≤ l.length ∧ μ = l.length - q ∧ t 0 = .ssl (encs cP l) l.length false ∧ t 1 = I x ∧ t 7 = I l.length ∧ t 8 = I q ∧ ∀ j, j < q → l[j]? ≠ some x) l.length
    ⟨0, by omega, rfl, by simp, by simp, by simp, by simp, fun j hj => by omega⟩ ?_
  rintro J hJ μ t H n ⟨q, hq, rfl, t0, t1, t7, t8, hall⟩
  have hf := findP_at x l 0 q hall hq
  by_cases hlt : q < l.length
  · have hlti : (q : Int) < l.length := by omega
    have hnl : ¬ l.length ≤ q := by omega
    have wq := wrap_succ q (by omega)
    have hix : partOf T.T 3 (List.drop q (encs cP l)) 0 = some (I (l[q] : Nat)) := by
      have hc := cell_own (e := cP) (z := 1) l [] q 0 hlt (by omega)
      rw [List.append_nil] at hc
      simp only [partOf, T.t3]
      simpa [aggK] using hc
    have hget : l[q]? = some l[q] := List.getElem?_eq_getElem hlt
    by_cases e : x = l[q]
    · have hres : findP x l 0 = q := by
        rw [hf, List.drop_eq_getElem_cons hlt, findP, if_pos e]; simp
      rw [← e] at hix
      simp [t7, t8, hlti]
      iterate 12 (try (refine evS_sound (f := 4) ?_; simp [t0, t1, t7, t8, hlt, hlti, hix]))
      exact hr _ _ _ (by simp [hres])
    · have hne : ¬ (x : Int) = (l[q] : Nat) := by omega
      simp [t7, t8, hlti]
      iterate 12 (try (refine evS_sound (f := 4) ?_; simp [t0, t1, t7, t8, hlt, hlti, hix, hne, wq]))
      exact ⟨_, by omega, hJ _ _ _ _ ⟨q + 1, hlt, rfl, by simp [t0], by simp [t1], by simp [t7], by simp, fun j hj => by
        by_cases ej : j = q
        · subst ej; rw [hget]; intro h; cases h; exact e rfl
        · exact hall j (by omega)⟩⟩
  · have hqe : q = l.length := by omega
    subst hqe
    have hres : findP x l 0 = -1 := by rw [hf, List.drop_length, findP]
    simp [t7, t8]
    iterate 6 (try (refine evS_sound (f := 4) ?_; simp))
    exact hr _ _ _ (by simp [hres])

theorem contains48 (l : List Nat) (x : Nat) (hl : l.length ≤ 2 ^ 40) : RunF Try.prog T.T 48 [.ssl (encs cP l) l.length false, I x] (B (l.contains x)) := by
  refine RunF.ev 4 Try.func48 rfl rfl rfl rfl rfl fun C hr hn => ?_
  simp
  iterate 3 (try (refine evS_sound (f := 4) ?_; simp))
  refine Stk.callF 9 (index58 l x hl) rfl rfl rfl (by simp [freeL, free, freeL_encs M.fr3]) (by simp [freeL, free, freeL_encs (e := cP) (fun _ => rfl)]) rfl ?_
  simp
  have h1 : 0 ≤ findP x l 0 ↔ x ∈ l := by have := findP_has x l 0; simpa [decide_eq_decide] using this
  exact hr _ _ _ (by simp [h1])
end Go.Proofs.Ytcdafogfmijcpaa.Flo
namespace Go.Proofs.Ytcdafogfmijcpaa.Flo
open Go.Proofs.YtcdafogfmijcpaaW.Ah
open M (api_Code api_Func api_Inst c3 c4 c9 c22 c26 c36 c41 c42 c44 c47 c51 StF comeP comeW joinR)
set_option maxRecDepth 8000
set_option linter.unusedVariables false
set_option linter.unusedSimpArgs false
attribute [local simp] T.t2 T.t3 T.t4 T.t9 T.t22 T.t23 T.t24 T.t26 T.t29 T.t36 T.t39 T.t41 T.t42 T.t44 T.t47 T.t53 T.t55 Op.maxDepth List.range List.range.loop
attribute [-simp] appendAV cellsOf cellOk partOk
attribute [local simp] cellsOf_sc cellOk_sc partOk_sc cellsOf_own cellOk_own partOk_own cellsOf_osl cellOk_osl partOk_osl cellsOf_sh cellOk_sh partOk_sh cellsOf_ssl cellOk_ssl partOk_ssl cellsOf_esl cellOk_esl partOk_esl cellsOf_fn cellOk_fn partOk_fn cellsOf_omap cellOk_omap partOk_omap cellsOf_agg partOk_agg cellsOf_slv cellOk_slv partOk_slv

/-- Classes of a region, in which blocks are named by places of a list. -/
def Cls.ren (L : List Nat) (b0 : Nat) : Cls → Cls
  | .rd R => .rd (R.map fun i => L.getD i 0)
  | .mem S _ => .mem (S.map fun i => L.getD i 0) b0
def Cls.small (k : Nat) : Cls → Bool
  | .rd R => R.all fun i => decide (i < k)
  | .mem S _ => S.all fun i => decide (i < k)

theorem getD_inj {L : List Nat} (hL : L.Nodup) {i j : Nat} (hi : i < L.length) (hj : j < L.length) (h : L.getD i 0 = L.getD j 0) : i = j := by
  rw [List.getD_eq_getElem?_getD, List.getD_eq_getElem?_getD, List.getElem?_eq_getElem hi, List.getElem?_eq_getElem hj] at h
  simp only [Option.getD_some] at h
  rcases Nat.lt_trichotomy i j with g | g | g
  · exact absurd h (List.pairwise_iff_getElem.1 hL i j hi hj g)
  · exact g
  · exact absurd h.symm (List.pairwise_iff_getElem.1 hL j i hj hi g)

/-- Other names of blocks, each another, hinder no order. -/
theorem drawOk2_ren {G : Array Oper} {q : Option Nat} (L : List Nat) (hL : L.Nodup) (b0 : Nat) (cl : List Cls) (hs : cl.all (Cls.small L.length) = true) (hd : drawOk2 G cl q = true) : drawOk2 G (cl.map (Cls.ren L b0)) q = true := by
  have dis : ∀ (R S : List Nat), (R.all fun i => decide (i < L.length)) = true → (S.all fun i => decide (i < L.length)) = true → (R.all fun j => !S.contains j) = true → ((R.map fun i => L.getD i 0).all fun j => !(S.map fun i => L.getD i 0).contains j) = true := by
    intro R S hR hS h
    rw [List.all_eq_true] at h hR hS ⊢
    intro x hx
    obtain ⟨r, hr, rfl⟩ := List.mem_map.1 hx
    have h1 := h r hr
    simp only [Bool.not_eq_true', List.contains_eq_mem, decide_eq_false_iff_not] at h1 ⊢
    intro hm
    obtain ⟨s, hs, e⟩ := List.mem_map.1 hm
    have := getD_inj hL (by simpa using hS s hs) (by simpa using hR r hr) e
    exact h1 (this ▸ hs)
  have key : ∀ a b : Nat, Cls.indep' cl[a]? cl[b]? = true → Cls.indep' (cl.map (Cls.ren L b0))[a]? (cl.map (Cls.ren L b0))[b]? = true := by
    intro a b h
    rw [List.getElem?_map, List.getElem?_map]
    cases ha : cl[a]? with
    | none => rw [ha] at h; simp [Cls.indep'] at h
    | some c =>
      cases hb : cl[b]? with
      | none => rw [ha, hb] at h; cases c <;> simp [Cls.indep'] at h
      | some d =>
        rw [ha, hb] at h
        rw [List.all_eq_true] at hs
        have hc := hs c (List.mem_of_getElem? ha)
        have hd := hs d (List.mem_of_getElem? hb)
        cases c with
        | rd R =>
          cases d with
          | rd R2 => rfl
          | mem S b2 => exact dis R S hc hd h
        | mem S b2 =>
          cases d with
          | rd R => exact dis R S hd hc h
          | mem S2 b3 => simp [Cls.indep'] at h
  have key2 : ∀ a b : Nat, indep2 G cl a b = true → indep2 G (cl.map (Cls.ren L b0)) a b = true := by
    intro a b h
    unfold indep2 at h ⊢
    split at h
    · rename_i x y hx hy
      simp only [Bool.and_eq_true] at h ⊢
      exact ⟨h.1, key a b h.2⟩
    · cases h
  have key3 : ∀ a b : Nat, pairOk2 G cl q a b = true → pairOk2 G (cl.map (Cls.ren L b0)) q a b = true := by
    intro a b h
    unfold pairOk2 at h ⊢
    split
    · rename_i hq
      rw [if_pos hq, Bool.or_eq_true] at h
      rw [Bool.or_eq_true]
      rcases h with h | h
      · refine .inl ?_
        unfold barrier2 at h ⊢
        rw [Bool.and_eq_true, List.all_eq_true] at h ⊢
        refine ⟨h.1, fun x hx => ?_⟩
        have := h.2 x hx
        rw [Bool.or_eq_true] at this ⊢
        exact this.imp (key2 x a) id
      · exact .inr (key2 a b h)
    · rename_i hq
      rw [if_neg hq] at h
      split
      · rename_i hq2
        rw [if_pos hq2] at h; exact h
      · rename_i hq2
        rw [if_neg hq2, Bool.or_eq_true] at h
        rw [Bool.or_eq_true]
        rcases h with h | h
        · exact .inl h
        · exact .inr (key2 a b h)
  unfold drawOk2 at hd ⊢
  rw [List.all_eq_true] at hd ⊢
  intro i hi
  have := hd i hi
  rw [Bool.and_eq_true, List.all_eq_true] at this ⊢
  exact ⟨this.1, fun a ha => key3 a i (this.2 a ha)⟩

/-- A place is put behind the others. -/
theorem moreT {H : Mem} {n : Nat} {ot : Option Nat} {xs : List Nat} (ho : YtcdafogfmijcpaaW.Ah.Own H 3 cP ot xs) (hn : ∀ i, ot = some i → i < n) (hl : xs.length ≤ 2 ^ 40) (x : Nat) :
    ∃ i H' n', appendAV T.T (upd H n (some (.cells [I x] 3))) (n + 1) 47 (slv ot xs.length) (.osl n 0 1 (some 1)) = some (.osl i 0 (xs.length + 1) none, H', n') ∧ YtcdafogfmijcpaaW.Ah.Own H' 3 cP (some i) (xs ++ [x]) ∧ n ≤ n' ∧ (ot = some i ∨ n ≤ i) ∧ i < n' ∧ (∀ j, j < n → ot ≠ some j → H' j = H j) := by
  obtain ⟨o', H', n', e1, o1, le1, f1, k1⟩ := append_own (e := cP) (z := 1) T.t47 rfl T.t3 rfl (by decide) rfl (by decide) (H := upd H n (some (.cells [I x] 3))) (n := n + 1) (o := ot) (xs := xs)
    (ho.mono fun i hi => upd_ne _ _ (by have := hn i hi; omega)) (fun i hi => by have := hn i hi; omega) (y := .osl n 0 1 (some 1)) [x] (by simp [encs, elemsOf]) rfl (by simp [roomMax]; omega) (by simp [roomMax]; omega)
  cases o' with
  | none => simp [YtcdafogfmijcpaaW.Ah.Own] at o1
  | some i =>
    have := f1 i rfl
    refine ⟨i, H', n', by simpa using e1, o1, by omega, ?_, this.2, fun j hj hne => by rw [k1 j (by omega) hne, upd_ne _ _ (by omega)]⟩
    rcases this.1 with h | h
    · exact .inl h
    · exact .inr (by omega)

theorem splice_one {cs : List AV} {k : Nat} {v : AV} (h : k < cs.length) : splice cs k [v] = cs.set k v := by
  have h1 : k = cs.length - (cs.length - k) := by omega
  unfold splice
  simp only [List.length_singleton]
  rw [List.set_eq_take_append_cons_drop, if_pos h]
  simp

theorem cut_set {α : Type} {l : List α} {k : Nat} {v : α} (h : k < l.length) : l.take k ++ v :: l.drop (k + 1) = l.set k v := by
  rw [List.set_eq_take_append_cons_drop, if_pos h]

theorem pushT {c : api_Code} {f : api_Func} {p A K : Nat} {role : Nat → Option Role} {H : Mem} {n : Nat} {st : StF} {todo : List Nat} {ot : Option Nat} (w : Wkr c f p A K role H n st todo false) (htl : todo.length ≤ 2 ^ 39) (to : Nat)
    (hp : H p = some (.cells (wkC c f A K st.length (slv ot todo.length) false) 55)) :
    ∃ b H3 n3, appendAV T.T (upd H n (some (.cells [I to] 3))) (n + 1) 47 (slv ot todo.length) (.osl n 0 1 (some 1)) = some (.osl b 0 (todo.length + 1) none, H3, n3) ∧ H3 p = H p ∧
      WRes c f p A K role H n (upd H3 p (some (.cells (wkC c f A K st.length (.osl b 0 (todo.length + 1) none) false) 55))) n3 st (todo ++ [to]) false := by
  obtain ⟨ot2, hp2, hot, hotr⟩ := w.hp
  have e : slv ot todo.length = slv ot2 todo.length := by rw [hp] at hp2; simpa using hp2
  rw [e]
  have hpn : p < n := w.lt p (by rw [w.rp]; simp)
  obtain ⟨b, H3, n3, e1, o1, le1, f1, lb, k1⟩ := moreT hot (fun i hi => w.lt i (by rw [hotr i hi]; simp)) (by omega) to
  have hop : ∀ j, ot2 = some j → j ≠ p := fun j hj e => by have h1 := hotr j hj; rw [e, w.rp] at h1; cases h1
  have hbp : b ≠ p := by
    rcases f1 with h | h
    · exact hop b h
    · omega
  refine ⟨b, H3, n3, e1, k1 p hpn (fun e => hop p e rfl), le1, fun j h1 h2 => ?_, upd role b (some .todo), fun j hj => ?_, ?_⟩
  · rw [upd_ne _ _ (fun e => by rw [e, w.rp] at h2; cases h2), k1 j h1 (fun e => by rw [hotr j e] at h2; cases h2)]
  · by_cases e : j = b
    · subst e
      rw [upd_same]
      rcases f1 with h | h
      · exact (hotr j h).symm
      · omega
    · rw [upd_ne _ _ e]
  · refine w.list (ot' := some b) le1 (fun j hj => ?_) (fun j hj => ?_) (by rw [upd_same]; simp) (o1.mono fun i hi => by cases hi; exact upd_ne _ _ hbp) (fun i hi => by cases hi; exact upd_same _ _ _) (fun j h1 h2 h3 => by rw [upd_ne _ _ h2, k1 j h1 (fun e => h3 (hotr j e))])
    · by_cases e : j = b
      · subst e
        rw [upd_same]
        rcases f1 with h | h
        · exact (hotr j h).symm
        · omega
      · rw [upd_ne _ _ e]
    · by_cases e : j = b
      · subst e; exact lb
      · rw [upd_ne _ _ e] at hj
        have := w.lt j hj; omega

theorem come_ok {c : api_Code} {f : api_Func} {p A K : Nat} {role : Nat → Option Role} {H : Mem} {n : Nat} {st : StF} {todo : List Nat} (w : Wkr c f p A K role H n st todo false) {S : Nat} (hS : f.Slots = S) (hSl : S ≤ 8192) (hcl : f.Code.length ≤ 2 ^ 20) (htl : todo.length ≤ 2 ^ 39)
    (hkn : ∀ q ∈ todo, ∃ x, st[q]? = some (some x)) (hwf : ∀ (q : Nat) (x : M.Row), st[q]? = some (some x) → x.length ≤ S) (to : Nat) {ob : Nat} {cc : Option Nat} {xs : M.Row} {ys : List AV} (hob : H ob = some (.cells (encs c4 xs ++ ys) 4)) (hor : role ob = none) (hoi : ob < n) :
    RunQ Try.prog T.T 31 [.own p 0, I to, .osl ob 0 xs.length cc] H n (fun r H' n' => r = .tup [] ∧ match comeW S (st, todo) to xs with
      | none => WRes c f p A K role H n H' n' st todo true
      | some s' => WRes c f p A K role H n H' n' s'.1 s'.2 false) := by
  obtain ⟨ot, hp, hot, hotr⟩ := w.hp
  obtain ⟨hv, hA, hvl, hrow⟩ := w.hA
  have hK := w.hK
  have hpn : p < n := w.lt p (by rw [w.rp]; simp)
  have hAn : A < n := w.lt A (by rw [w.rA]; simp)
  have hKn : K < n := w.lt K (by rw [w.rK]; simp)
  have hotn : ∀ i, ot = some i → i < n := fun i hi => w.lt i (by rw [hotr i hi]; simp)
  have hpA : p ≠ A := fun e => by have h1 := w.rp; rw [e, w.rA] at h1; cases h1
  have hpK : p ≠ K := fun e => by have h1 := w.rp; rw [e, w.rK] at h1; cases h1
  have hAK : A ≠ K := fun e => by have h1 := w.rA; rw [e, w.rK] at h1; cases h1
  have hbp : ob ≠ p := fun e => by rw [e, w.rp] at hor; cases hor
  have hbA : ob ≠ A := fun e => by rw [e, w.rA] at hor; cases hor
  have hbK : ob ≠ K := fun e => by rw [e, w.rK] at hor; cases hor
  have hsl := w.sl
  -- the flag
  have bad : ∀ (H' : Mem) (n' : Nat), n' = n → H' p = some (.cells (wkC c f A K st.length (slv ot todo.length) true) 55) → (∀ j, j ≠ p → H' j = H j) → WRes c f p A K role H n H' n' st todo true := fun H' n' e h1 h2 => by
    subst e
    refine ⟨Nat.le_refl _, fun j _ hj => h2 j (fun e => by rw [e, w.rp] at hj; cases hj), role, fun _ _ => rfl, w.flag (fun ot2 h => ?_) h1 h2⟩
    rw [hp] at h
    simp only [Option.some.injEq, Blk.cells.injEq, List.cons.injEq, and_true, true_and] at h
    rw [h]
  refine RunQ.ev 4 Try.func31 rfl rfl rfl rfl rfl fun C hr hn => ?_
  by_cases h1 : to < f.Code.length
  · have h1i : (to : Int) < f.Code.length := by omega
    have h1j : ¬ (f.Code.length : Int) ≤ to := by omega
    by_cases h2 : xs.length ≤ S
    · have h2i : ¬ (S : Int) < xs.length := by omega
      have htol : to < st.length := by omega
      have htoi : (to : Int) < st.length := by omega
      have hKl : partOf T.T 4 (st.map fun r => B r.isSome) to = some (B (st[to]).isSome) := by
        simp only [partOf, T.t4]
        simp [aggK, htol]
      have hx : ∀ x, st[to]? = some x → st[to] = x := fun x hx => by rw [List.getElem?_eq_getElem htol] at hx; simpa using hx
      obtain ⟨r0, hr0⟩ : ∃ r0, st[to]? = some r0 := ⟨_, List.getElem?_eq_getElem htol⟩
      rw [hx r0 hr0] at hKl
      obtain ⟨v0, hv0, hrow0⟩ := hrow to r0 hr0
      cases r0 with
      | none =>
        have hc : comeW S (st, todo) to xs = some (st.set to (some xs), todo ++ [to]) := by
          have : ¬ to ∈ todo := fun h => by obtain ⟨x, hx⟩ := hkn to h; rw [hr0] at hx; cases hx
          unfold comeW comeP; rw [if_pos h2]; simp [hr0, this]
        rw [hc] at hr
        have hg := hx none hr0
        simp
        iterate 12 (try (refine evS_sound (f := 4) ?_; simp [hp, hK, partOf, h1i, h1j, hS, h2i, splice, htoi, htol, hg]))
        refine Stk.regionD 99 [.rd [], .rd [], .rd [], .rd [p], .rd [], .rd [], .rd [], .rd [], .rd [p], .rd [], .rd [], .mem [] n, .rd [K], .mem [K] n, .rd [A], .mem [A] n] none (by kernel_rfl) (drawOk2_ren [p, K, A] (by simp [hpA, hpK, Ne.symm hAK]) n [.rd [], .rd [], .rd [], .rd [0], .rd [], .rd [], .rd [], .rd [], .rd [0], .rd [], .rd [], .mem [] 0, .rd [1], .mem [1] 0, .rd [2], .mem [2] 0] rfl (by rfl)) rfl (by simp [below]; omega) rfl ?_
        simp [hp, partOf]
        have hel : elemsOf H 1 (.osl ob 0 xs.length cc) = some (xs.length, encs c4 xs) := by
          simp only [elemsOf, hob]
          rw [if_pos (by rw [List.length_append, length_encs (e := c4)]; omega), List.drop_zero, List.take_left' (by rw [length_encs (e := c4)])]
        have hcl := clone47 (n := n) hel rfl hoi (by omega)
        refine Stk.callSD 4 rfl (fun v H1 n1 hz => ?_) hcl rfl rfl rfl rfl (by simp) ?_
        · obtain ⟨j, _, _, _, hz⟩ := hz
          exact fun q hq _ => hz q hq
        rintro v H1 n1 ⟨j, ⟨c2, ys2, rfl, hj, hjc⟩, hj1, hj2, hk1⟩
        have hA1 := (hk1 A hAn).trans hA
        have hK1 := (hk1 K hKn).trans hK
        have hs1 := cut_set (l := st.map fun r => B r.isSome) (k := to) (v := B true) (by simpa using htol)
        have hs2 := cut_set (l := hv) (k := to) (v := .osl j 0 xs.length c2) (by omega)
        have htol1 : to + 1 ≤ st.length := htol
        have htol2 : to + 1 ≤ hv.length := by omega
        simp [hA1, hK1, htoi, htol, htol1, htol2, hAK, Ne.symm hAK, hs1, hs2]
        refine ⟨fun q h1 h2 h3 => absurd h3 h2, fun q h1 h2 h3 => absurd h3 h2, ?_⟩
        obtain ⟨H2, hH2⟩ : ∃ H2 : Mem, H2 = upd (upd H1 K (some (.cells ((st.map fun r => B r.isSome).set to (B true)) 4))) A (some (.cells (hv.set to (.osl j 0 xs.length c2)) 42)) := ⟨_, rfl⟩
        rw [← hH2]
        have k2 : ∀ q, q ≠ A → q ≠ K → H2 q = H1 q := fun q h1 h2 => by rw [hH2, upd_ne _ _ h1, upd_ne _ _ h2]
        have w2 : Wkr c f p A K (upd role j (some (.row to))) H2 n1 (st.set to (some xs)) todo false :=
          w.rowNew hr0 hj1 hj2 hjc hA (by rw [hH2, upd_same]) (by rw [hH2, upd_ne _ _ (Ne.symm hAK), upd_same]) (ys := ys2) ((k2 j (by omega) (by omega)).trans hj) (fun q h1 h2 h3 => by rw [k2 q h2 h3, hk1 q h1])
        have hp2 : H2 p = some (.cells (wkC c f A K (st.set to (some xs)).length (slv ot todo.length) false) 55) := by rw [k2 p hpA hpK, hk1 p hpn, hp, List.length_set]
        obtain ⟨b, H3, n3, e3, hp3, hres⟩ := pushT w2 htl to hp2
        rw [hp2] at hp3
        rw [List.length_set] at hp2 hp3 hres
        iterate 6 (try (refine evS_sound (f := 5) ?_; simp [hp2, partOf, e3, hp3, splice]))
        refine hr _ _ _ (.tup []) (by simp) ⟨rfl, WRes.trans (Nat.le_of_lt (Nat.lt_of_le_of_lt hj1 hj2)) (fun q h1 h2 => ?_) (role1 := upd role j (some (.row to))) (H1 := H2) (fun q h1 => upd_ne _ _ (by omega)) hres⟩
        rw [k2 q (fun e => by rw [e, w.rA] at h2; cases h2) (fun e => by rw [e, w.rK] at h2; cases h2), hk1 q h1]
      | some old =>
        obtain ⟨io, co, yo, rfl, hio, hior, hcc⟩ := hrow0
        have hg := hx _ hr0
        have hion : io < n := w.lt io (by rw [hior]; simp)
        have hvi : hv[to]? = some (.osl io 0 old.length co) := hv0
        have hvl2 : to < hv.length := by omega
        have hvg : hv[to] = .osl io 0 old.length co := by rw [List.getElem?_eq_getElem hvl2] at hvi; simpa using hvi
        by_cases h3 : old.length = xs.length
        · have h3i : (old.length : Int) = xs.length := by omega
          simp
          iterate 18 (try (refine evS_sound (f := 4) ?_; simp [hp, hK, hA, partOf, h1i, h1j, hS, h2i, splice, htoi, htol, hg, hvl2, hvg, h3i]))
          refine Stk.loop 4 (fun μ t H' n' => ∃ k : Nat, k ≤ xs.length ∧ μ = xs.length - k ∧ t 0 = .own p 0 ∧ t 1 = I to ∧ t 6 = .osl io 0 old.length co ∧ t 7 = B (decide (mixR k old xs ≠ old)) ∧ t 78 = .osl ob 0 xs.length cc ∧ t 79 = I xs.length ∧ t 80 = I k ∧
            H' io = some (.cells (encs c4 (mixR k old xs) ++ yo) 4) ∧ (∀ j, j ≠ io → H' j = H j) ∧ n' = n) xs.length
            ⟨0, by omega, rfl, by simp, by simp, by simp, by simp [mixR], by simp, by simp, by simp, hio, fun _ _ => rfl, rfl⟩ ?_
          rintro J hJ μ t H' n' ⟨k, hk, rfl, t0, t1, t6, t7, t78, t79, t80, hio', hko, rfl⟩
          have hob' : H' ob = some (.cells (encs c4 xs ++ ys) 4) := by rw [hko ob (fun e => by rw [e, hior] at hor; cases hor), hob]
          have hmix := mixR_len k old xs
          by_cases hlt : k < xs.length
          · have hlti : (k : Int) < xs.length := by omega
            have hlto : (k : Int) < old.length := by omega
            have hlt2 : k < old.length := by omega
            have wk := wrap_succ k (by omega)
            obtain ⟨y, hy⟩ : ∃ y, xs[k]? = some y := ⟨_, List.getElem?_eq_getElem hlt⟩
            obtain ⟨x, hxo⟩ : ∃ x, old[k]? = some x := ⟨_, List.getElem?_eq_getElem hlt2⟩
            have hxs : partOf T.T 4 (encs c4 xs ++ ys) k = some (B y) := by
              have hc := cell_own (e := c4) (z := 1) xs ys k 0 hlt (by omega)
              have : xs[k] = y := by rw [List.getElem?_eq_getElem hlt] at hy; simpa using hy
              rw [this] at hc
              simp only [partOf, T.t4]
              simpa [aggK] using hc
            have hxm : partOf T.T 4 (encs c4 (mixR k old xs) ++ yo) k = some (B x) := by
              have hlt3 : k < (mixR k old xs).length := by omega
              have hc := cell_own (e := c4) (z := 1) (mixR k old xs) yo k 0 hlt3 (by omega)
              have : (mixR k old xs)[k] = x := by have h := mixR_at k old xs; rw [hxo, List.getElem?_eq_getElem hlt3] at h; simpa using h
              rw [this] at hc
              simp only [partOf, T.t4]
              simpa [aggK] using hc
            have hstep := mixR_step k old xs x y hxo hy
            have hend : ∀ (t' : Nat → AV) (H2 : Mem), (∀ j, j ∈ [0, 1, 6, 78, 79] → t' j = t j) → t' 80 = I ((k + 1 : Nat) : Int) → t' 7 = B (decide (mixR (k + 1) old xs ≠ old)) → H2 io = some (.cells (encs c4 (mixR (k + 1) old xs) ++ yo) 4) → (∀ j, j ≠ io → H2 j = H j) → J (xs.length - (k + 1)) t' H2 n' := fun t' H2 ht h80 h7 hH hk2 =>
              hJ _ _ _ _ ⟨k + 1, hlt, rfl, by rw [ht 0 (by simp), t0], by rw [ht 1 (by simp), t1], by rw [ht 6 (by simp), t6], h7, by rw [ht 78 (by simp), t78], by rw [ht 79 (by simp), t79], h80, hH, hk2, rfl⟩
            simp [t79, t80, hlti]
            cases y with
            | false =>
              rw [if_neg (by simp)] at hstep
              iterate 12 (try (refine evS_sound (f := 4) ?_; simp [t6, t78, t80, hob', hlt, hlti, hxs, wk]))
              exact ⟨_, by omega, hend _ _ (by simp [upd]) (by simp) (by rw [hstep]; simp [t7]) (by rw [hstep]; exact hio') hko⟩
            | true =>
              cases x with
              | true =>
                rw [if_neg (by simp)] at hstep
                iterate 12 (try (refine evS_sound (f := 4) ?_; simp [t6, t78, t80, hob', hio', hlt, hlti, hlto, hlt2, hxs, hxm, wk]))
                exact ⟨_, by omega, hend _ _ (by simp [upd]) (by simp) (by rw [hstep]; simp [t7]) (by rw [hstep]; exact hio') hko⟩
              | false =>
                rw [if_pos ⟨rfl, rfl⟩] at hstep
                have hne : mixR (k + 1) old xs ≠ old := mixR_new hxo hy
                have hlt3 : k < (mixR k old xs).length := by omega
                have hsp : splice (encs c4 (mixR k old xs) ++ yo) k [B true] = encs c4 (mixR (k + 1) old xs) ++ yo := by
                  rw [hstep]
                  have := splice_own (e := c4) (z := 1) (mixR k old xs) yo k hlt3 true
                  rw [Nat.mul_one] at this; exact this
                have hll : k + 1 ≤ (encs c4 (mixR k old xs) ++ yo).length := by rw [List.length_append, length_encs (e := c4)]; omega
                iterate 12 (try (refine evS_sound (f := 4) ?_; simp [t6, t78, t80, hob', hio', hlt, hlti, hlto, hlt2, hxs, hxm, wk, hsp, hll, -List.length_append]))
                exact ⟨_, by omega, hend _ _ (by simp [upd]) (by simp) (by simp [hne]) (by have h := hsp; unfold splice at h; simpa using h) (fun j hj => by simp [hj, hko j hj])⟩
          · have hke : k = xs.length := by omega
            subst hke
            have hfull := mixR_full xs.length old xs h3 (by omega)
            rw [hfull] at t7 hio'
            have hjl : (joinR old xs).length = old.length := M.joinR_len h3
            have w2 : Wkr c f p A K role H' n' (st.set to (some (joinR old xs))) todo false := w.rowSet hr0 ⟨hv, hA, hvi⟩ hior hjl hcc hio' hko
            have hiop : io ≠ p := fun e => by rw [e, w.rp] at hior; cases hior
            have hp' : H' p = some (.cells (wkC c f A K (st.set to (some (joinR old xs))).length (slv ot todo.length) false) 55) := by rw [hko p (Ne.symm hiop), hp, List.length_set]
            have hfr : ∀ j, j < n' → role j = none → H' j = H j := fun j _ h => hko j (fun e => by rw [e, hior] at h; cases h)
            have hcs : comeW S (st, todo) to xs = some (st.set to (some (joinR old xs)), if decide (joinR old xs ≠ old) && !(todo.contains to) then todo ++ [to] else todo) := by
              unfold comeW comeP; rw [if_pos h2]; simp [hr0, h3]
            rw [hcs] at hr hn
            by_cases hch : joinR old xs = old
            · have hr2 := fun t H1 n1 => hn t H1 n1 (.tup [])
              simp only [hch, ne_eq, not_true, decide_false, Bool.false_and, Bool.false_eq_true, if_false] at hr2
              rw [show decide (joinR old xs ≠ old) = false by simp [hch]] at t7
              rw [hch] at w2
              simp [t79, t80]
              iterate 12 (try (refine evS_sound (f := 4) ?_; simp [t7]))
              exact hr2 _ _ _ (by simp) ⟨trivial, Nat.le_refl _, hfr, role, fun _ _ => rfl, w2⟩
            · rw [show decide (joinR old xs ≠ old) = true by simp [hch]] at t7
              simp [t79, t80]
              iterate 6 (try (refine evS_sound (f := 4) ?_; simp [t0, t1, t7, hp', partOf]))
              have hot' : YtcdafogfmijcpaaW.Ah.Own H' 3 cP ot todo := hot.mono fun i hi => hko i (fun e => by have h := hotr i hi; rw [e, hior] at h; cases h)
              refine Stk.callB 4 ot.toList (contains48 todo to (by omega)) rfl rfl rfl (by simp) (.cons (view_own (fun _ => rfl) hot' (fun i hi => by rw [hi]; simp)) (.free rfl)) rfl ?_
              cases hct : todo.contains to with
              | true =>
                have hr2 := fun t H1 n1 => hn t H1 n1 (.tup [])
                simp only [hct, Bool.not_true, Bool.and_false, Bool.false_eq_true, if_false] at hr2
                simp
                iterate 12 (try (refine evS_sound (f := 4) ?_; simp))
                exact hr2 _ _ _ (by simp) ⟨trivial, Nat.le_refl _, hfr, role, fun _ _ => rfl, w2⟩
              | false =>
                have hr2 := fun t H1 n1 => hn t H1 n1 (.tup [])
                have hdt : (decide (joinR old xs ≠ old) && !false) = true := by simp [hch]
                rw [hct, if_pos hdt] at hr2
                obtain ⟨b, H3, n3, e3, hp3, hres⟩ := pushT w2 htl to hp'
                rw [hp'] at hp3
                rw [List.length_set] at hp' hp3 hres
                simp
                iterate 12 (try (refine evS_sound (f := 4) ?_; simp [t0, t1, hp', partOf, e3, hp3, splice]))
                exact hr2 _ _ _ (by simp) ⟨rfl, WRes.trans (Nat.le_refl _) hfr (fun _ _ => rfl) hres⟩
        · have hc : comeW S (st, todo) to xs = none := by
            unfold comeW comeP; rw [if_pos h2]; simp [hr0, h3]
          rw [hc] at hr
          have h3i : ¬ (old.length : Int) = xs.length := by omega
          simp
          iterate 18 (try (refine evS_sound (f := 4) ?_; simp [hp, hK, hA, partOf, h1i, h1j, hS, h2i, splice, htoi, htol, hg, hvl2, hvg, h3i]))
          exact hr _ _ _ (.tup []) (by simp) ⟨rfl, bad _ _ rfl (by simp [hS]) (fun j hj => by simp [hj])⟩
    · have hc : comeW S (st, todo) to xs = none := by unfold comeW comeP; rw [if_neg h2]
      rw [hc] at hr
      have h2i : (S : Int) < xs.length := by omega
      simp
      iterate 12 (try (refine evS_sound (f := 4) ?_; simp [hp, partOf, h1i, h1j, hS, h2i, splice]))
      exact hr _ _ _ (.tup []) (by simp) ⟨rfl, bad _ _ rfl (by simp [hS]) (fun j hj => by simp [hj])⟩
  · have hc : comeW S (st, todo) to xs = none := by
      unfold comeW comeP
      have : st[to]? = none := List.getElem?_eq_none (by omega)
      rw [this]
      split <;> simp_all
    rw [hc] at hr
    have h1i : (f.Code.length : Int) ≤ to := by omega
    simp
    iterate 12 (try (refine evS_sound (f := 4) ?_; simp [hp, partOf, h1i, splice]))
    exact hr _ _ _ (.tup []) (by simp) ⟨rfl, bad _ _ rfl (by simp) (fun j hj => by simp [hj])⟩
end Go.Proofs.Ytcdafogfmijcpaa.Flo
namespace Go.Proofs.Ytcdafogfmijcpaa.Flo
open Go.Proofs.YtcdafogfmijcpaaW.Ah
open M (api_Code api_Func api_Inst c3 c4 c9 c22 c26 c36 c41 c42 c44 c47 c51 StF RowT cRow rowsT row0 fitI rowI iC takesP putsP goesP nextP allP wantsP thereP putP)
set_option maxRecDepth 8000
set_option linter.unusedVariables false
set_option linter.unusedSimpArgs false
attribute [local simp] T.t2 T.t3 T.t4 T.t9 T.t22 T.t23 T.t24 T.t26 T.t29 T.t36 T.t39 T.t41 T.t42 T.t44 T.t47 T.t53 T.t55 T.t92 T.t93 T.t95 T.t104 T.t106 Op.maxDepth List.range List.range.loop
attribute [-simp] appendAV

theorem fit_rng (i : api_Inst) (hi : fitI i = true) : 0 ≤ i.Op ∧ i.Op < 16 ∧ (rowsT.getD i.Op.toNat row0).l0 ≤ i.A ∧ i.A ≤ (rowsT.getD i.Op.toNat row0).m0 ∧ (rowsT.getD i.Op.toNat row0).l1 ≤ i.B ∧ i.B ≤ (rowsT.getD i.Op.toNat row0).m1 ∧ (rowsT.getD i.Op.toNat row0).l2 ≤ i.C ∧ i.C ≤ (rowsT.getD i.Op.toNat row0).m2 ∧ rowI i = rowsT.getD i.Op.toNat row0 := by
  have h := hi
  unfold fitI at h
  simp only [Bool.and_eq_true, decide_eq_true_eq] at h
  obtain ⟨h1, h2, ⟨h3, h4⟩, ⟨h5, h6⟩, h7, h8⟩ := h
  exact ⟨h1, h2, h3, h4, h5, h6, h7, h8, by unfold rowI; rw [if_pos hi]⟩

theorem wants_ok (op : Int) : RunF Try.prog T.T 59 [I op] (I (wantsP op)) := by
  refine RunF.ev 99 Try.func59 rfl rfl rfl rfl rfl fun C hr hn => ?_
  by_cases h8 : op = 8
  · subst h8
    simp
    iterate 4 (try (refine evS_sound (f := 4) ?_; simp))
    exact hr _ _ _ (by simp [wantsP])
  · by_cases h11 : op = 11
    · subst h11
      simp
      iterate 6 (try (refine evS_sound (f := 4) ?_; simp))
      exact hr _ _ _ (by simp [wantsP])
    · simp [h8]
      iterate 8 (try (refine evS_sound (f := 4) ?_; simp [h8, h11]))
      exact ⟨fun e => absurd e h11, fun _ => hr _ _ _ (by simp [wantsP, h8, h11])⟩

theorem fitI_fit (i : api_Inst) : RunF Try.prog T.T 42 [.agg (iC i)] (B (fitI i)) := by
  refine RunF.ev 9 Try.func42 rfl rfl rfl rfl rfl fun C hr hn => ?_
  simp [partOf]
  refine Stk.callF 4 (M.of_ok i) rfl rfl rfl (by simp) rfl rfl ?_
  iterate 6 (try (refine evS_sound (f := 4) ?_; simp [partOf, splice]))
  exact hr _ _ _ (by simp)

theorem takes_ok (i : api_Inst) (hi : fitI i = true) : RunF Try.prog T.T 49 [.agg (iC i)] (.tup [I (takesP i), I (putsP i)]) := by
  refine RunF.ev 9 Try.func49 rfl rfl rfl rfl rfl fun C hr hn => ?_
  have e1 : takesP i = (if i.Op = 3 ∨ i.Op = 6 then i.B else if i.Op = 5 then wantsP i.A else if i.Op = 8 then i.A + 1 else (rowI i).takes) := by unfold takesP; rw [if_pos hi]
  have e2 : putsP i = (rowI i).puts := by unfold putsP; rw [if_pos hi]
  rw [e1, e2] at hr hn
  obtain ⟨r, hrr⟩ : ∃ r, rowI i = r := ⟨_, rfl⟩
  have hof := M.of_ok i
  rw [hrr, hi] at hof
  rw [hrr] at hr
  simp [partOf]
  refine Stk.callF 4 hof rfl rfl rfl (by simp) rfl rfl ?_
  by_cases h36 : i.Op = 3 ∨ i.Op = 6
  · rw [if_pos h36] at hr
    have fin : ∀ t H n, t 2 = I i.B → t 3 = I r.puts → C .ret t H n := fun t H n a b => hr _ _ _ (by simp [a, b])
    rcases h36 with h3 | h3
    · iterate 8 (try (refine evS_sound (f := 4) ?_; simp [partOf, splice, h3]))
      refine Stk.regionD 99 [.rd [], .rd [0], .rd [], .rd [1], .rd [], .rd []] none (by kernel_rfl) (by rfl) rfl (by simp [below]) rfl ?_
      simp [partOf]
      exact fin _ _ _ (by simp) (by simp)
    · iterate 8 (try (refine evS_sound (f := 4) ?_; simp [partOf, splice, h3]))
      refine Stk.regionD 99 [.rd [], .rd [0], .rd [], .rd [1], .rd [], .rd []] none (by kernel_rfl) (by rfl) rfl (by simp [below]) rfl ?_
      simp [partOf]
      exact fin _ _ _ (by simp) (by simp)
  · rw [if_neg h36] at hr
    have h3 : ¬ i.Op = 3 := fun e => h36 (.inl e)
    have h6 : ¬ i.Op = 6 := fun e => h36 (.inr e)
    by_cases h5 : i.Op = 5
    · rw [if_pos h5] at hr
      iterate 10 (try (refine evS_sound (f := 4) ?_; simp [partOf, splice, h5]))
      refine Stk.regionD 99 [.rd [], .rd [0], .rd [], .rd [], .rd [1], .rd [], .rd []] none (by kernel_rfl) (by rfl) rfl (by simp [below]) rfl ?_
      simp [partOf]
      refine Stk.callFD 99 (wants_ok i.A) rfl rfl rfl rfl rfl (by simp) rfl rfl ?_
      simp [partOf]
      exact hr _ _ _ (by simp)
    · rw [if_neg h5] at hr
      by_cases h8 : i.Op = 8
      · rw [if_pos h8] at hr
        have hw : IntKind.i64.wrap (i.A + 1) = i.A + 1 := by
          obtain ⟨_, _, h1, h2, _⟩ := fit_rng i hi
          rw [h8] at h1 h2
          have e1 : (rowsT.getD (8 : Int).toNat row0).l0 = 1 := rfl
          have e2 : (rowsT.getD (8 : Int).toNat row0).m0 = 8192 := rfl
          rw [e1] at h1; rw [e2] at h2
          exact wrap64_id (by omega) (by omega)
        iterate 12 (try (refine evS_sound (f := 4) ?_; simp [partOf, splice, h8]))
        refine Stk.regionD 99 [.rd [], .rd [0], .rd [], .rd [], .rd [1], .rd [], .rd []] none (by kernel_rfl) (by rfl) rfl (by simp [below]) rfl ?_
        simp [partOf, hw]
        exact hr _ _ _ (by simp)
      · rw [if_neg h8] at hr
        iterate 16 (try (refine evS_sound (f := 4) ?_; simp [partOf, splice, h3, h5, h6, h8]))
        refine Stk.regionD 99 [.rd [], .rd [1], .rd [], .rd [1], .rd [], .rd []] none (by kernel_rfl) (by rfl) rfl (by simp [below]) rfl ?_
        simp [partOf]
        exact hr _ _ _ (by simp)

/-- What an instruction names is there, or not. -/
theorem misses_ok {c : api_Code} {f : api_Func} {p A K m : Nat} {td : AV} {bad : Bool} {H : Mem} {n : Nat} (hp : H p = some (.cells (wkC c f A K m td bad) 55)) (hpn : p < n) (i : api_Inst) (hi : fitI i = true) (left : Int) :
    RunQ Try.prog T.T 50 [.own p 0, .agg (iC i), I left] H n (fun r H' n' => r = B (!thereP c i left) ∧ n ≤ n' ∧ ∀ j, j < n → H' j = H j) := by
  obtain ⟨ho0, ho16, hrng⟩ := fit_rng i hi
  refine RunQ.ev 9 Try.func50 rfl rfl rfl rfl rfl fun C hr hn => ?_
  have hpn2 : ¬ p = n := by omega
  have fin : ∀ (t : Nat → AV) (b : Bool), t 6 = B b → b = (!thereP c i left) → C .ret t (upd H n (some (.cells (iC i) 44))) (n + 1) := fun t b h6 hb =>
    hr _ _ _ (B b) (by simp [h6]) ⟨by rw [hb], by omega, fun j hj => upd_ne _ _ (by omega)⟩
  by_cases h1 : i.Op = 1
  · simp [h1]
    iterate 6 (try (refine evS_sound (f := 4) ?_; simp [h1, partOf]))
    refine Stk.regionD 99 [.rd [], .rd [n], .rd [], .rd [], .rd [], .rd [], .rd [p], .rd [], .rd [], .rd []] none (by kernel_rfl) (drawOk2_ren [n, p] (by simp; omega) 0 [.rd [], .rd [0], .rd [], .rd [], .rd [], .rd [], .rd [1], .rd [], .rd [], .rd []] rfl (by rfl)) rfl (by simp [below]) rfl ?_
    simp [partOf, hp, hpn2]
    exact fin _ (decide ((c.Texts.length : Int) ≤ i.A)) (by simp) (by unfold thereP; rw [if_pos h1]; simp [← decide_not])
  · by_cases h6 : i.Op = 6
    · have hA0 : 0 ≤ i.A := by rw [h6] at hrng; exact hrng.1
      obtain ⟨a, ha⟩ := Int.eq_ofNat_of_zero_le hA0
      by_cases hlt : i.A < c.Funs.length
      · have hltn : a < c.Funs.length := by omega
        have hge : ¬ (c.Funs.length : Int) ≤ a := by omega
        have hlti : (a : Int) < c.Funs.length := by omega
        have hix : (encs c41 c.Funs)[a * 4 + 1]? = some (I (c.Funs.getD a M.z36).Params) := by
          have h := cell_own (e := c41) (z := 4) c.Funs [] a 1 hltn (by omega)
          rw [List.append_nil] at h
          rw [h, List.getD_eq_getElem?_getD, List.getElem?_eq_getElem hltn]; rfl
        simp [h6, ha]
        iterate 8 (try (refine evS_sound (f := 4) ?_; simp [h6, ha, partOf]))
        refine Stk.regionD 999 [.rd [], .rd [n], .rd [], .rd [], .rd [], .rd [], .rd [p], .rd [], .rd [], .rd [], .rd [], .rd [], .rd [], .rd [], .rd [p], .rd [], .rd [n], .rd [], .rd [], .rd [], .rd [], .rd [n], .rd [], .rd [], .rd []] none (by kernel_rfl) (drawOk2_ren [n, p] (by simp; omega) 0 [.rd [], .rd [0], .rd [], .rd [], .rd [], .rd [], .rd [1], .rd [], .rd [], .rd [], .rd [], .rd [], .rd [], .rd [], .rd [1], .rd [], .rd [0], .rd [], .rd [], .rd [], .rd [], .rd [0], .rd [], .rd [], .rd []] rfl (by rfl)) rfl (by simp [below]) rfl ?_
        simp [partOf, hp, hpn2, hge, hlti, hltn, ha, hix]
        refine fin _ (c.Funs[a].Params != i.B) (by simp [hltn]) ?_
        unfold thereP; rw [if_neg h1, if_pos h6]
        simp only [ha, hlti, Int.toNat_natCast, List.getD_eq_getElem?_getD, List.getElem?_eq_getElem hltn, Option.getD_some, decide_true, Bool.true_and]
        by_cases e : c.Funs[a].Params = i.B <;> simp [e]
      · simp [h6, ha]
        have hge : (c.Funs.length : Int) ≤ a := by omega
        iterate 8 (try (refine evS_sound (f := 4) ?_; simp [h6, ha, partOf]))
        refine Stk.regionD 999 [.rd [], .rd [n], .rd [], .rd [], .rd [], .rd [], .rd [p], .rd [], .rd [], .rd [], .rd [], .rd [], .rd [], .rd [], .rd [p], .rd [], .rd [n], .rd [], .rd [], .rd [], .rd [], .rd [n], .rd [], .rd [], .rd []] none (by kernel_rfl) (drawOk2_ren [n, p] (by simp; omega) 0 [.rd [], .rd [0], .rd [], .rd [], .rd [], .rd [], .rd [1], .rd [], .rd [], .rd [], .rd [], .rd [], .rd [], .rd [], .rd [1], .rd [], .rd [0], .rd [], .rd [], .rd [], .rd [], .rd [0], .rd [], .rd [], .rd []] rfl (by rfl)) rfl (by simp [below]) rfl ?_
        simp [partOf, hp, hpn2, hge, ha]
        exact fin _ true (by simp) (by unfold thereP; rw [if_neg h1, if_pos h6]; simp [ha]; omega)
    · by_cases h11 : i.Op = 11
      · have hB0 : 0 ≤ i.B := by rw [h11] at hrng; exact hrng.2.2.1
        simp [h11]
        iterate 8 (try (refine evS_sound (f := 4) ?_; simp [h11, partOf]))
        refine Stk.regionD 999 [.rd [], .rd [n], .rd [], .rd [], .rd [], .rd [], .rd [p], .rd [], .rd [], .rd [], .rd [], .rd [n], .rd [], .rd [], .rd [], .rd []] none (by kernel_rfl) (drawOk2_ren [n, p] (by simp; omega) 0 [.rd [], .rd [0], .rd [], .rd [], .rd [], .rd [], .rd [1], .rd [], .rd [], .rd [], .rd [], .rd [0], .rd [], .rd [], .rd [], .rd []] rfl (by rfl)) rfl (by simp [below]) rfl ?_
        have hth : (!thereP c i left) = (decide ((c.Tables.length : Int) ≤ i.B) || decide (left ≤ i.A)) := by
          unfold thereP; rw [if_neg h1, if_neg h6, if_pos h11]; simp [← decide_not, Bool.not_and]
        by_cases hge : (c.Tables.length : Int) ≤ i.B
        · simp [partOf, hp, hpn2, hge]
          exact fin _ true (by simp) (by rw [hth]; simp [hge])
        · simp [partOf, hp, hpn2, hge]
          exact fin _ (decide (left ≤ i.A)) (by simp) (by rw [hth]; simp [hge])
      · by_cases hr2 : i.Op = 2 ∨ i.Op = 4 ∨ i.Op = 12 ∨ i.Op = 13 ∨ i.Op = 14
        · have hth : (!thereP c i left) = decide (left ≤ i.A) := by
            unfold thereP; rw [if_neg h1, if_neg h6, if_neg h11, if_pos hr2]; simp [← decide_not]
          rcases hr2 with h | h | h | h | h <;> (simp [h]; (iterate 24 (try (refine evS_sound (f := 4) ?_; simp [h, partOf]))); rw [← h]; exact fin _ (decide (left ≤ i.A)) (by simp) hth.symm)
        · have hth : (!thereP c i left) = false := by
            unfold thereP; rw [if_neg h1, if_neg h6, if_neg h11, if_neg hr2]; rfl
          have h2 : ¬ i.Op = 2 := fun e => hr2 (.inl e)
          have h4 : ¬ i.Op = 4 := fun e => hr2 (.inr (.inl e))
          have h12 : ¬ i.Op = 12 := fun e => hr2 (.inr (.inr (.inl e)))
          have h13 : ¬ i.Op = 13 := fun e => hr2 (.inr (.inr (.inr (.inl e))))
          have h14 : ¬ i.Op = 14 := fun e => hr2 (.inr (.inr (.inr (.inr e))))
          simp [h1, h6, h11]
          iterate 20 (try (refine evS_sound (f := 4) ?_; simp [h1, h6, h11, h2, h4, h12, h13, h14, partOf]))
          exact fin _ _ (by simp) hth.symm
end Go.Proofs.Ytcdafogfmijcpaa.Flo
