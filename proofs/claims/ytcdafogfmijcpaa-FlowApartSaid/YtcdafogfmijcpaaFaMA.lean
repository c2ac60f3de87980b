/-
  The table of instructions, and one's row in it.
-/
import Derived.Test.YtcdafogfmijcpaaFaT
import Derived.Test.YtcdafogfmijcpaaAhR
import Derived.Test.YtcdafogfmijcpaaAhC
namespace Go.Proofs.Ytcdafogfmijcpaa.M
open Go.Proofs.YtcdafogfmijcpaaW.Ah Go.Proofs.Ytcdafogfmijcpaa
set_option maxRecDepth 8000
set_option linter.unusedVariables false
set_option linter.unusedSimpArgs false
attribute [local simp] T.t2 T.t3 T.t4 T.t9 T.t44 T.t47 T.t92 T.t93 T.t95 T.t104 T.t106 Op.maxDepth List.range List.range.loop
attribute [-simp] appendAV

structure RowT where
  name : ByteArray
  l0 : Int
  m0 : Int
  l1 : Int
  m1 : Int
  l2 : Int
  m2 : Int
  takes : Int
  puts : Int
  to : Int
  next : Bool
abbrev cRow : RowT → List AV := fun r => [.sc (.string r.name), .sc (.int .i64 r.l0), .sc (.int .i64 r.m0), .sc (.int .i64 r.l1), .sc (.int .i64 r.m1), .sc (.int .i64 r.l2), .sc (.int .i64 r.m2), .sc (.int .i64 r.takes), .sc (.int .i64 r.puts), .sc (.int .i64 r.to), .sc (.bool r.next)]
instance : Enc cRow 11 := ⟨fun _ => rfl⟩
def row0 : RowT := ⟨⟨#[]⟩, 0, 0, 0, 0, 0, 0, 0, 0, 0, false⟩
def rowsT : List RowT := [
  ⟨⟨#[105, 110, 116]⟩, -4611686018427387904, 4611686018427387903, 0, 0, 0, 0, 0, 1, -1, true⟩,
  ⟨⟨#[116, 101, 120, 116]⟩, 0, 4095, 0, 0, 0, 0, 0, 1, -1, true⟩,
  ⟨⟨#[103, 101, 116]⟩, 0, 8191, 0, 0, 0, 0, 0, 1, -1, true⟩,
  ⟨⟨#[109, 97, 107, 101]⟩, 0, 15, 1, 6, 0, 0, -1, 1, -1, true⟩,
  ⟨⟨#[102, 105, 101, 108, 100]⟩, 0, 8191, 0, 5, 0, 0, 0, 1, -1, true⟩,
  ⟨⟨#[111, 112]⟩, 0, 11, 0, 0, 0, 0, -1, 1, -1, true⟩,
  ⟨⟨#[99, 97, 108, 108]⟩, 0, 79, 1, 6, 0, 0, -1, 1, -1, true⟩,
  ⟨⟨#[114, 101, 116]⟩, 0, 0, 0, 0, 0, 0, 1, 0, -1, false⟩,
  ⟨⟨#[115, 108, 105, 100, 101]⟩, 1, 8192, 0, 0, 0, 0, -1, 1, -1, true⟩,
  ⟨⟨#[106, 117, 109, 112]⟩, 0, 1048575, 0, 0, 0, 0, 0, 0, 0, false⟩,
  ⟨⟨#[102, 97, 108, 115, 101]⟩, 0, 1048575, 0, 0, 0, 0, 1, 0, 0, true⟩,
  ⟨⟨#[115, 119, 105, 116, 99, 104]⟩, 0, 8191, 0, 65535, 0, 0, 0, 0, -1, false⟩,
  ⟨⟨#[105, 115]⟩, 0, 8191, -4611686018427387904, 4611686018427387903, 0, 1048575, 0, 0, 2, true⟩,
  ⟨⟨#[108, 111, 111, 112]⟩, 0, 8191, 0, 1048575, 0, 0, 0, 0, 1, true⟩,
  ⟨⟨#[115, 116, 111, 114, 101]⟩, 0, 8191, 0, 0, 0, 0, 1, 0, -1, true⟩,
  ⟨⟨#[116, 114, 97, 112]⟩, 0, 0, 0, 0, 0, 0, 0, 0, -1, false⟩]
def vRow (r : RowT) : List Value := [.string r.name, .int .i64 r.l0, .int .i64 r.m0, .int .i64 r.l1, .int .i64 r.m1, .int .i64 r.l2, .int .i64 r.m2, .int .i64 r.takes, .int .i64 r.puts, .int .i64 r.to, .bool r.next]
theorem cRow_v (r : RowT) : cRow r = (vRow r).map .sc := rfl

def sameV : Value → Value → Bool
  | .int .i64 a, .int .i64 b => a == b
  | .string a, .string b => a.data == b.data
  | .bool a, .bool b => a == b
  | _, _ => false
theorem sameV_eq : ∀ {a b : Value}, sameV a b = true → a = b := by
  intro a b h
  unfold sameV at h
  split at h
  · simp at h; subst h; rfl
  · rename_i x y
    have h2 : x.data = y.data := by simpa using h
    cases x; cases y; simp at h2; subst h2; rfl
  · simp at h; subst h; rfl
  · cases h
def sameL : List AV → List Value → Bool
  | [], [] => true
  | .sc a :: l, b :: m => sameV a b && sameL l m
  | _, _ => false
theorem sameL_eq : ∀ {l : List AV} {m : List Value}, sameL l m = true → l = m.map .sc
  | [], [], _ => rfl
  | a :: l, b :: m, h => by
    cases a with
    | sc a =>
      rw [sameL, Bool.and_eq_true] at h
      rw [sameV_eq h.1, sameL_eq h.2]; rfl
    | _ => simp [sameL] at h
  | [], _ :: _, h => by simp [sameL] at h
  | a :: l, [], h => by cases a <;> simp [sameL] at h
noncomputable def xAgg (F : Nat) (f : FuncId) (m : List Value) : Bool :=
  match xRun Try.prog T.T F f [] (fun _ => none) 0 with
  | some (.agg l, _, _) => sameL l m
  | _ => false
theorem RunF.xAgg (F : Nat) {f : FuncId} {m : List Value} (h : xAgg F f m = true) : RunF Try.prog T.T f [] (.agg (m.map .sc)) := by
  unfold M.xAgg at h
  split at h
  · rename_i l H' n' h1
    rw [← sameL_eq h]
    exact ⟨H', n', (x_ok F).run h1⟩
  · cases h
theorem table_ok : RunF Try.prog T.T 65 [] (.agg (encs cRow rowsT)) := by
  have h := RunF.xAgg 200 (f := 65) (m := rowsT.flatMap vRow) (by decide +kernel)
  have e : encs cRow rowsT = (rowsT.flatMap vRow).map .sc := by rfl
  rw [e]; exact h

def fitI (i : api_Inst) : Bool := decide (0 ≤ i.Op) && (decide (i.Op < 16) &&
  (let r := rowsT.getD i.Op.toNat row0; (decide (r.l0 ≤ i.A) && decide (i.A ≤ r.m0)) && ((decide (r.l1 ≤ i.B) && decide (i.B ≤ r.m1)) && (decide (r.l2 ≤ i.C) && decide (i.C ≤ r.m2)))))
def rowI (i : api_Inst) : RowT := if fitI i = true then rowsT.getD i.Op.toNat row0 else row0
abbrev iC (i : api_Inst) : List AV := [I i.Op, I i.A, I i.B, I i.C]
theorem c44_eq (i : api_Inst) : c44 i = iC i := rfl

theorem all_ok (i : api_Inst) : RunF Try.prog T.T 66 [.agg (iC i)] (.agg [I i.A, I i.B, I i.C]) := by
  refine RunF.ev 99 Try.func66 rfl rfl rfl rfl rfl fun C hr hn => ?_
  simp [partOf]
  exact hr _ _ _ (by simp [partOf])

def okAt (r : RowT) (i : api_Inst) : Nat → Bool
  | 0 => decide (r.l0 ≤ i.A) && decide (i.A ≤ r.m0)
  | 1 => decide (r.l1 ≤ i.B) && decide (i.B ≤ r.m1)
  | _ => decide (r.l2 ≤ i.C) && decide (i.C ≤ r.m2)
theorem of_ok (i : api_Inst) : RunF Try.prog T.T 56 [.agg (iC i)] (.tup [.agg (cRow (rowI i)), B (fitI i)]) := by
  refine RunF.ev 9 Try.func56 rfl rfl rfl rfl rfl fun C hr hn => ?_
  by_cases h0 : i.Op < 0
  · have hf : fitI i = false := by unfold fitI; simp [show ¬ 0 ≤ i.Op by omega]
    have hrw : rowI i = row0 := by unfold rowI; simp [hf]
    simp [partOf, h0]
    iterate 10 (try (refine evS_sound (f := 3) ?_; simp [partOf, h0]))
    exact hr _ _ _ (by simp [partOf, hf, hrw, row0])
  · by_cases h16 : 16 ≤ i.Op
    · have hf : fitI i = false := by unfold fitI; simp [show ¬ i.Op < 16 by omega]
      have hrw : rowI i = row0 := by unfold rowI; simp [hf]
      simp [partOf, h0, h16]
      iterate 10 (try (refine evS_sound (f := 3) ?_; simp [partOf, h0, h16]))
      exact hr _ _ _ (by simp [partOf, hf, hrw, row0])
    · obtain ⟨k, hk⟩ : ∃ k : Nat, i.Op = k := ⟨i.Op.toNat, by omega⟩
      have hk16 : k < 16 := by omega
      have hlt : (k : Int) < 16 := by omega
      obtain ⟨r, hrr⟩ : ∃ r, rowsT.getD k row0 = r := ⟨_, rfl⟩
      have hfit : fitI i = (okAt r i 0 && (okAt r i 1 && okAt r i 2)) := by
        unfold fitI
        rw [hk, Int.toNat_natCast, hrr]
        simp [okAt, hlt]
      have hrow : fitI i = true → rowI i = r := fun h => by unfold rowI; rw [if_pos h, hk, Int.toNat_natCast, hrr]
      have hix : partOf T.T 95 (List.drop (k * 11) (encs cRow rowsT)) 0 = some (.agg (cRow r)) := by
        have := part_agg (T := T.T) (e := cRow) (z := 11) T.t95 rfl rfl rowsT k hk16
        rw [this, ← hrr, List.getD_eq_getElem?_getD, List.getElem?_eq_getElem hk16]; rfl
      rw [partOf_drop T.t95 (by decide)] at hix
      have hk0 : ¬ (k : Int) < 0 := by omega
      have hk1 : ¬ 16 ≤ (k : Int) := by omega
      simp [hk, hk0, hk1]
      iterate 5 (try (refine evS_sound (f := 3) ?_; simp [hk, hk0, hk1]))
      refine Stk.regionD 9 [.rd [], .rd [], .rd [0], .rd [], .mem [] 2, .mem [] 2] none (by kernel_rfl) (by rfl) rfl (by simp [below]) rfl ?_
      simp [hk]
      refine Stk.callFD 9 table_ok rfl rfl rfl rfl rfl (by simp) rfl rfl ?_
      simp [hk, hk16, hlt, hix]
      refine ⟨fun j h1 h2 => by omega, ?_⟩
      refine ⟨fun j h1 h2 => by omega, ?_⟩
      iterate 2 (try (refine evS_sound (f := 1) ?_; simp [partOf]))
      refine Stk.callF 3 (all_ok i) rfl rfl rfl (by simp) rfl rfl ?_
      simp
      iterate 2 (try (refine evS_sound (f := 2) ?_; simp))
      refine Stk.loop 4 (fun μ t H n => ∃ q : Nat, q ≤ 3 ∧ μ = 3 - q ∧ t 2 = .own 1 0 ∧ t 3 = B false ∧ t 4 = .own 2 0 ∧ t 21 = .agg [I i.A, I i.B, I i.C] ∧ t 22 = I q ∧ H 1 = some (.cells (cRow row0) 95) ∧ H 2 = some (.cells (cRow r) 95) ∧ ∀ j, j < q → okAt r i j = true) 3
        ⟨0, by omega, rfl, by simp, by simp, by simp, by simp, by simp, by simp [row0], by simp, fun j hj => by omega⟩ ?_
      rintro J hJ μ t H n ⟨q, hq, rfl, t2, t3, t4, t21, t22, h1, h2, hall⟩
      by_cases hlt3 : q < 3
      · have hlti : (q : Int) < 3 := by omega
        have wq := wrap_succ q (by omega)
        have hnext : ∀ t' : Nat → AV, okAt r i q = true → (∀ j, j ∈ [2, 3, 4, 21] → t' j = t j) → t' 22 = I ((q + 1 : Nat) : Int) → J (3 - (q + 1)) t' H n := fun t' ho ht ht22 =>
          hJ _ _ _ _ ⟨q + 1, hlt3, rfl, by rw [ht 2 (by simp), t2], by rw [ht 3 (by simp), t3], by rw [ht 4 (by simp), t4], by rw [ht 21 (by simp), t21], ht22, h1, h2, fun j hj => by
            by_cases e : j = q
            · subst e; exact ho
            · exact hall j (by omega)⟩
        have hbad : okAt r i q = false → fitI i = false ∧ rowI i = row0 := fun ho => by
          have : fitI i = false := by
            rw [hfit]
            match q, hlt3, ho with
            | 0, _, ho => rw [ho]; rfl
            | 1, _, ho => rw [ho]; simp
            | 2, _, ho => rw [ho]; simp
          exact ⟨this, by unfold rowI; simp [this]⟩
        match q, hlt3, hlti, wq, hnext, hbad, t22 with
        | 0, _, _, wq, hnext, hbad, t22 =>
          by_cases c1 : i.A < r.l0
          · obtain ⟨b1, b2⟩ := hbad (by simp [okAt, show ¬ r.l0 ≤ i.A by omega])
            simp [t22]
            iterate 16 (try (refine evS_sound (f := 3) ?_; simp [t2, t3, t4, t21, t22, h1, h2, partOf, c1]))
            exact hr _ _ _ (by simp [partOf, b1, b2, t2, row0])
          · by_cases c2 : r.m0 < i.A
            · obtain ⟨b1, b2⟩ := hbad (by simp [okAt, show ¬ i.A ≤ r.m0 by omega])
              simp [t22]
              iterate 20 (try (refine evS_sound (f := 3) ?_; simp [t2, t3, t4, t21, t22, h1, h2, partOf, c1, c2]))
              exact hr _ _ _ (by simp [partOf, b1, b2, t2, row0])
            · have ho : okAt r i 0 = true := by simp [okAt]; omega
              simp [t22]
              iterate 24 (try (refine evS_sound (f := 3) ?_; simp [t2, t3, t4, t21, t22, h1, h2, partOf, c1, c2, wq]))
              exact ⟨_, by omega, hnext _ ho (by simp [upd]) (by simp <;> rfl)⟩
        | 1, _, _, wq, hnext, hbad, t22 =>
          by_cases c1 : i.B < r.l1
          · obtain ⟨b1, b2⟩ := hbad (by simp [okAt, show ¬ r.l1 ≤ i.B by omega])
            simp [t22]
            iterate 16 (try (refine evS_sound (f := 3) ?_; simp [t2, t3, t4, t21, t22, h1, h2, partOf, c1]))
            exact hr _ _ _ (by simp [partOf, b1, b2, t2, row0])
          · by_cases c2 : r.m1 < i.B
            · obtain ⟨b1, b2⟩ := hbad (by simp [okAt, show ¬ i.B ≤ r.m1 by omega])
              simp [t22]
              iterate 20 (try (refine evS_sound (f := 3) ?_; simp [t2, t3, t4, t21, t22, h1, h2, partOf, c1, c2]))
              exact hr _ _ _ (by simp [partOf, b1, b2, t2, row0])
            · have ho : okAt r i 1 = true := by simp [okAt]; omega
              simp [t22]
              iterate 24 (try (refine evS_sound (f := 3) ?_; simp [t2, t3, t4, t21, t22, h1, h2, partOf, c1, c2, wq]))
              exact ⟨_, by omega, hnext _ ho (by simp [upd]) (by simp <;> rfl)⟩
        | 2, _, _, wq, hnext, hbad, t22 =>
          by_cases c1 : i.C < r.l2
          · obtain ⟨b1, b2⟩ := hbad (by simp [okAt, show ¬ r.l2 ≤ i.C by omega])
            simp [t22]
            iterate 16 (try (refine evS_sound (f := 3) ?_; simp [t2, t3, t4, t21, t22, h1, h2, partOf, c1]))
            exact hr _ _ _ (by simp [partOf, b1, b2, t2, row0])
          · by_cases c2 : r.m2 < i.C
            · obtain ⟨b1, b2⟩ := hbad (by simp [okAt, show ¬ i.C ≤ r.m2 by omega])
              simp [t22]
              iterate 20 (try (refine evS_sound (f := 3) ?_; simp [t2, t3, t4, t21, t22, h1, h2, partOf, c1, c2]))
              exact hr _ _ _ (by simp [partOf, b1, b2, t2, row0])
            · have ho : okAt r i 2 = true := by simp [okAt]; omega
              simp [t22]
              iterate 24 (try (refine evS_sound (f := 3) ?_; simp [t2, t3, t4, t21, t22, h1, h2, partOf, c1, c2, wq]))
              exact hnext _ ho (by simp [upd]) (by simp <;> rfl)
      · have hq3 : q = 3 := by omega
        subst hq3
        have hf : fitI i = true := by rw [hfit, hall 0 (by omega), hall 1 (by omega), hall 2 (by omega)]; rfl
        simp [t22]
        iterate 5 (try (refine evS_sound (f := 3) ?_; simp [t2, t4, h1, h2, partOf]))
        exact hr _ _ _ (by simp [partOf, hf, hrow hf, t2])
end Go.Proofs.Ytcdafogfmijcpaa.M
namespace Go.Proofs.Ytcdafogfmijcpaa.M
set_option linter.unusedVariables false
set_option linter.unusedSimpArgs false

abbrev Row := List Bool
abbrev StF := List (Option (List Bool))

/-- Slots that are of a length, and where one may be a place the other's may be. -/
def Le (x y : Row) : Prop := x.length = y.length ∧ ∀ k : Nat, x[k]? = some true → y[k]? = some true
theorem Le.rfl' (x : Row) : Le x x := ⟨rfl, fun _ h => h⟩
theorem Le.trans {x y z : Row} (h : Le x y) (g : Le y z) : Le x z := ⟨h.1.trans g.1, fun k hk => g.2 k (h.2 k hk)⟩
theorem Le.antisymm {x y : Row} (h : Le x y) (g : Le y x) : x = y := by
  refine List.ext_getElem h.1 fun k h1 h2 => ?_
  have a := h.2 k
  have b := g.2 k
  rw [List.getElem?_eq_getElem h1, List.getElem?_eq_getElem h2] at a b
  cases hx : x[k] <;> cases hy : y[k] <;> simp [hx, hy] at a b ⊢

def joinR (a b : Row) : Row := List.zipWith or a b
theorem joinR_len {a b : Row} (h : a.length = b.length) : (joinR a b).length = a.length := by simp [joinR, h]
theorem joinR_left {a b : Row} (h : a.length = b.length) : Le a (joinR a b) := by
  refine ⟨(joinR_len h).symm, fun k hk => ?_⟩
  obtain ⟨h1, h2⟩ := List.getElem?_eq_some_iff.1 hk
  simp [joinR, List.getElem?_zipWith, hk, List.getElem?_eq_getElem (show k < b.length by omega)]
theorem joinR_right {a b : Row} (h : a.length = b.length) : Le b (joinR a b) := by
  refine ⟨by rw [joinR_len h, h], fun k hk => ?_⟩
  obtain ⟨h1, h2⟩ := List.getElem?_eq_some_iff.1 hk
  simp [joinR, List.getElem?_zipWith, hk, List.getElem?_eq_getElem (show k < a.length by omega)]
theorem joinR_le {a b y : Row} (h1 : Le a y) (h2 : Le b y) : Le (joinR a b) y := by
  have hl : a.length = b.length := h1.1.trans h2.1.symm
  refine ⟨by rw [joinR_len hl, h1.1], fun k hk => ?_⟩
  have hka : k < a.length := by have := (List.getElem?_eq_some_iff.1 hk).1; rw [joinR_len hl] at this; exact this
  have e1 := List.getElem?_eq_getElem hka
  have e2 := List.getElem?_eq_getElem (show k < b.length by omega)
  simp only [joinR, List.getElem?_zipWith, e1, e2, Option.some.injEq, Bool.or_eq_true] at hk
  rcases hk with hk | hk
  · exact h1.2 k (by rw [e1, hk])
  · exact h2.2 k (by rw [e2, hk])

def falses : Row → Nat
  | [] => 0
  | b :: x => (if b = true then 0 else 1) + falses x
theorem falses_le : ∀ x : Row, falses x ≤ x.length
  | [] => Nat.le_refl _
  | b :: x => by have := falses_le x; simp only [falses, List.length_cons]; split <;> omega
theorem falses_join : ∀ a b : Row, a.length = b.length → falses (joinR a b) ≤ falses a ∧ (joinR a b ≠ a → falses (joinR a b) < falses a)
  | [], [], _ => ⟨Nat.le_refl _, fun h => absurd rfl h⟩
  | x :: a, y :: b, h => by
    have ih := falses_join a b (by simpa using h)
    have e : joinR (x :: a) (y :: b) = (x || y) :: joinR a b := rfl
    rw [e]
    simp only [falses]
    cases x <;> cases y <;> simp only [Bool.or_true, Bool.or_false, Bool.true_or, Bool.false_eq_true, if_true, if_false, reduceCtorEq] <;> refine ⟨by omega, fun hne => ?_⟩
    · have := ih.2 (fun e => hne (by rw [e])); omega
    · omega
    · have := ih.2 (fun e => hne (by rw [e])); omega
    · have := ih.2 (fun e => hne (by rw [e])); omega
  | [], _ :: _, h => by simp at h
  | _ :: _, [], h => by simp at h

def rowW (S : Nat) : Option Row → Nat
  | none => S + 2
  | some x => falses x
def mu (S : Nat) : StF → Nat
  | [] => 0
  | r :: st => rowW S r + mu S st
theorem mu_set (S : Nat) : ∀ (st : StF) (q : Nat) (r r' : Option Row), st[q]? = some r → mu S (st.set q r') + rowW S r = mu S st + rowW S r'
  | [], q, r, r', h => by simp at h
  | x :: st, 0, r, r', h => by
    simp only [List.getElem?_cons_zero, Option.some.injEq] at h
    subst h
    simp only [List.set_cons_zero, mu]; omega
  | x :: st, q + 1, r, r', h => by
    have := mu_set S st q r r' (by simpa using h)
    simp only [List.set_cons_succ, mu]; omega
theorem mu_rep (S n : Nat) : mu S (List.replicate n none) = n * (S + 2) := by
  induction n with
  | zero => simp [mu]
  | succ n ih => rw [List.replicate_succ, mu, ih, rowW, Nat.succ_mul]; omega

def LeS (st t : StF) : Prop := st.length = t.length ∧ ∀ (q : Nat) (x : Row), st[q]? = some (some x) → ∃ y, t[q]? = some (some y) ∧ Le x y
theorem LeS.rfl' (st : StF) : LeS st st := ⟨rfl, fun q x h => ⟨x, h, Le.rfl' x⟩⟩
theorem LeS.trans {a b c : StF} (h : LeS a b) (g : LeS b c) : LeS a c := ⟨h.1.trans g.1, fun q x hx => by
  obtain ⟨y, hy, h1⟩ := h.2 q x hx
  obtain ⟨z, hz, h2⟩ := g.2 q y hy
  exact ⟨z, hz, h1.trans h2⟩⟩
theorem LeS.antisymm {a b : StF} (h : LeS a b) (g : LeS b a) : a = b := by
  refine List.ext_getElem h.1 fun k h1 h2 => ?_
  have p := h.2 k
  have r := g.2 k
  rw [List.getElem?_eq_getElem h1, List.getElem?_eq_getElem h2] at p r
  generalize a[k] = u at p r
  generalize b[k] = v at p r
  cases u with
  | none =>
    cases v with
    | none => rfl
    | some y => obtain ⟨z, hz, _⟩ := r y rfl; cases hz
  | some x =>
    obtain ⟨y, hy, h3⟩ := p x rfl
    cases hy
    obtain ⟨z, hz, h4⟩ := r y rfl
    cases hz
    rw [h3.antisymm h4]

def Into (S : Nat) (st : StF) (to : Nat) (o : Row) : Prop := ∃ y, st[to]? = some (some y) ∧ o.length ≤ S ∧ Le o y
theorem Into.up {S : Nat} {st t : StF} {to : Nat} {o : Row} (h : Into S st to o) (g : LeS st t) : Into S t to o := by
  obtain ⟨y, h1, h2, h3⟩ := h
  obtain ⟨z, h4, h5⟩ := g.2 _ _ h1
  exact ⟨z, h4, h2, h3.trans h5⟩
theorem Into.down {S : Nat} {st : StF} {to : Nat} {o o' : Row} (h : Into S st to o) (g : Le o' o) : Into S st to o' := by
  obtain ⟨y, h1, h2, h3⟩ := h
  exact ⟨y, h1, by rw [g.1]; exact h2, g.trans h3⟩

def comeP (S : Nat) (st : StF) (to : Nat) (o : Row) : Option (StF × Bool) :=
  if o.length ≤ S then
    match st[to]? with
    | none => none
    | some none => some (st.set to (some o), true)
    | some (some old) => if old.length = o.length then some (st.set to (some (joinR old o)), decide (joinR old o ≠ old)) else none
  else none

theorem set_same {α : Type} : ∀ (l : List α) (q : Nat) (x : α), l[q]? = some x → l.set q x = l
  | [], _, _, h => by simp at h
  | y :: l, 0, x, h => by simp only [List.getElem?_cons_zero, Option.some.injEq] at h; rw [h]; rfl
  | y :: l, q + 1, x, h => by rw [List.set_cons_succ, set_same l q x (by simpa using h)]

structure Up (S : Nat) (st st' : StF) (ch : Bool) (to : Nat) : Prop where
  le : LeS st st'
  same : ch = false → st' = st
  less : ch = true → mu S st' < mu S st
  far : ∀ q, q ≠ to → st'[q]? = st[q]?
  wf : (∀ (q : Nat) (x : Row), st[q]? = some (some x) → x.length ≤ S) → ∀ (q : Nat) (x : Row), st'[q]? = some (some x) → x.length ≤ S
  kn : ∃ y, st'[to]? = some (some y)

theorem come_up {S : Nat} {st st' : StF} {to : Nat} {o : Row} {ch : Bool} (h : comeP S st to o = some (st', ch)) : Up S st st' ch to ∧ Into S st' to o := by
  unfold comeP at h
  split at h
  · rename_i hS
    split at h
    · cases h
    · rename_i hn
      simp only [Option.some.injEq, Prod.mk.injEq] at h
      obtain ⟨rfl, rfl⟩ := h
      have hlt : to < st.length := (List.getElem?_eq_some_iff.1 hn).1
      have hget : (st.set to (some o))[to]? = some (some o) := by rw [List.getElem?_set_self hlt]
      refine ⟨⟨⟨by simp, fun q x hx => ?_⟩, fun e => (by cases e), fun _ => ?_, fun q hq => by rw [List.getElem?_set_ne (Ne.symm hq)], fun hw q x hx => ?_, ⟨_, hget⟩⟩, ⟨o, hget, hS, Le.rfl' o⟩⟩
      · by_cases e : q = to
        · subst e; rw [hn] at hx; cases hx
        · exact ⟨x, by rw [List.getElem?_set_ne (Ne.symm e)]; exact hx, Le.rfl' x⟩
      · have := mu_set S st to none (some o) hn
        have := falses_le o
        simp only [rowW] at *
        omega
      · by_cases e : q = to
        · subst e; rw [hget] at hx; cases hx; exact hS
        · rw [List.getElem?_set_ne (Ne.symm e)] at hx; exact hw q x hx
    · rename_i old ho
      split at h
      · rename_i hl
        simp only [Option.some.injEq, Prod.mk.injEq] at h
        obtain ⟨rfl, rfl⟩ := h
        have hlt : to < st.length := (List.getElem?_eq_some_iff.1 ho).1
        have hget : (st.set to (some (joinR old o)))[to]? = some (some (joinR old o)) := by rw [List.getElem?_set_self hlt]
        refine ⟨⟨⟨by simp, fun q x hx => ?_⟩, fun e => ?_, fun e => ?_, fun q hq => by rw [List.getElem?_set_ne (Ne.symm hq)], fun hw q x hx => ?_, ⟨_, hget⟩⟩, ⟨_, hget, hS, joinR_right hl⟩⟩
        · by_cases e : q = to
          · subst e; rw [ho] at hx; cases hx; exact ⟨_, hget, joinR_left hl⟩
          · exact ⟨x, by rw [List.getElem?_set_ne (Ne.symm e)]; exact hx, Le.rfl' x⟩
        · have e : joinR old o = old := by simpa using e
          rw [e]; exact set_same _ _ _ ho
        · have e : joinR old o ≠ old := by simpa using e
          have := mu_set S st to (some old) (some (joinR old o)) ho
          have := (falses_join old o hl).2 e
          simp only [rowW] at *
          omega
        · by_cases e : q = to
          · subst e; rw [hget] at hx; cases hx; rw [joinR_len hl, hl]; exact hS
          · rw [List.getElem?_set_ne (Ne.symm e)] at hx; exact hw q x hx
      · cases h
  · cases h

theorem come_below {S : Nat} {st t : StF} {to : Nat} {o : Row} (h : LeS st t) (g : Into S t to o) : ∃ st' ch, comeP S st to o = some (st', ch) ∧ LeS st' t := by
  obtain ⟨y, h1, h2, h3⟩ := g
  unfold comeP
  rw [if_pos h2]
  have hlt : to < st.length := by rw [h.1]; exact (List.getElem?_eq_some_iff.1 h1).1
  have hset : ∀ (z : Row), Le z y → LeS (st.set to (some z)) t := by
    intro z hz
    refine ⟨by simp [h.1], fun q x hx => ?_⟩
    by_cases e : q = to
    · subst e
      rw [List.getElem?_set_self hlt] at hx
      cases hx
      exact ⟨y, h1, hz⟩
    · rw [List.getElem?_set_ne (Ne.symm e)] at hx
      exact h.2 q x hx
  cases hs : st[to]? with
  | none => rw [List.getElem?_eq_getElem hlt] at hs; cases hs
  | some r =>
    cases r with
    | none => exact ⟨_, _, rfl, hset o h3⟩
    | some old =>
      obtain ⟨z, hz, h4⟩ := h.2 _ _ hs
      rw [h1] at hz; cases hz
      simp only
      rw [if_pos (h4.1.trans h3.1.symm)]
      exact ⟨_, _, rfl, hset _ (joinR_le h4 h3)⟩

section
variable (n S : Nat) (fst : Row) (stp : Nat → Row → Option (Row × List Nat))
/-- What a place with these slots asks for. -/
def ClsAt (st : StF) (q : Nat) (x : Row) : Prop := ∃ o l, stp q x = some (o, l) ∧ ∀ to ∈ l, Into S st to o
structure Sol (st : StF) : Prop where
  len : st.length = n
  wf : ∀ (q : Nat) (x : Row), st[q]? = some (some x) → x.length ≤ S
  ent : Into S st 0 fst
  cls : ∀ (q : Nat) (x : Row), st[q]? = some (some x) → ClsAt S stp st q x
def Least (st : StF) : Prop := Sol n S fst stp st ∧ ∀ t, Sol n S fst stp t → LeS st t
theorem Least.uniq {st t : StF} (h : Least n S fst stp st) (g : Least n S fst stp t) : st = t := (h.2 t g.1).antisymm (g.2 st h.1)
def Mono : Prop := ∀ (q : Nat) (x y : Row), Le x y → (∀ o l, stp q y = some (o, l) → ∃ o', stp q x = some (o', l) ∧ Le o' o)
noncomputable def leastP : Option StF := open Classical in if h : ∃ st, Least n S fst stp st then some (Classical.choose h) else none
theorem leastP_some {st : StF} (h : Least n S fst stp st) : leastP n S fst stp = some st := by
  unfold leastP
  have hex : ∃ st, Least n S fst stp st := ⟨st, h⟩
  rw [dif_pos hex, Least.uniq n S fst stp (Classical.choose_spec hex) h]
theorem leastP_none (h : ¬ ∃ st, Sol n S fst stp st) : leastP n S fst stp = none := by
  unfold leastP
  rw [dif_neg fun ⟨st, g⟩ => h ⟨st, g.1⟩]
theorem leastP_ok {st : StF} (h : leastP n S fst stp = some st) : Least n S fst stp st := by
  unfold leastP at h
  split at h
  · rename_i hex; cases h; exact Classical.choose_spec hex
  · cases h
end

section
variable {n S : Nat} {fst : Row} {stp : Nat → Row → Option (Row × List Nat)}

/-! The walk with a list of places. -/
def comeW (S : Nat) (s : StF × List Nat) (to : Nat) (o : Row) : Option (StF × List Nat) :=
  match comeP S s.1 to o with
  | none => none
  | some (st', ch) => some (st', if ch && !(s.2.contains to) then s.2 ++ [to] else s.2)
def comesW (S : Nat) (o : Row) : List Nat → StF × List Nat → Option (StF × List Nat)
  | [], s => some s
  | to :: l, s => match comeW S s to o with | none => none | some s' => comesW S o l s'

structure Fold (n S : Nat) (fst : Row) (stp : Nat → Row → Option (Row × List Nat)) (s s' : StF × List Nat) : Prop where
  le : LeS s.1 s'.1
  low : ∀ t, Sol n S fst stp t → LeS s'.1 t
  wf : (∀ (q : Nat) (x : Row), s.1[q]? = some (some x) → x.length ≤ S) → ∀ (q : Nat) (x : Row), s'.1[q]? = some (some x) → x.length ≤ S
  sub : ∀ q ∈ s.2, q ∈ s'.2
  kn : ∀ q ∈ s'.2, q ∈ s.2 ∨ ∃ x, s'.1[q]? = some (some x)
  chg : ∀ q, s'.1[q]? ≠ s.1[q]? → q ∈ s'.2
  meas : 2 * mu S s'.1 + s'.2.length ≤ 2 * mu S s.1 + s.2.length

theorem Fold.rfl' {s : StF × List Nat} (h : ∀ t, Sol n S fst stp t → LeS s.1 t) : Fold n S fst stp s s := ⟨LeS.rfl' _, h, fun h => h, fun _ h => h, fun _ h => .inl h, fun _ h => absurd rfl h, Nat.le_refl _⟩
theorem Fold.trans {a b c : StF × List Nat} (h : Fold n S fst stp a b) (g : Fold n S fst stp b c) : Fold n S fst stp a c := by
  refine ⟨h.le.trans g.le, g.low, fun w => g.wf (h.wf w), fun q hq => g.sub q (h.sub q hq), fun q hq => ?_, fun q hq => ?_, Nat.le_trans g.meas h.meas⟩
  · rcases g.kn q hq with h1 | h1
    · rcases h.kn q h1 with h2 | ⟨x, h2⟩
      · exact .inl h2
      · obtain ⟨y, hy, _⟩ := g.le.2 q x h2
        exact .inr ⟨y, hy⟩
    · exact .inr h1
  · by_cases e : c.1[q]? = b.1[q]?
    · exact g.sub q (h.chg q (by rw [← e]; exact hq))
    · exact g.chg q e

theorem comeW_ok {s : StF × List Nat} {to : Nat} {o : Row} (low : ∀ t, Sol n S fst stp t → LeS s.1 t) (hin : ∀ t, Sol n S fst stp t → Into S t to o) :
    match comeW S s to o with
    | none => ¬ ∃ t, Sol n S fst stp t
    | some s' => Fold n S fst stp s s' ∧ Into S s'.1 to o := by
  unfold comeW
  cases hc : comeP S s.1 to o with
  | none =>
    rintro ⟨t, ht⟩
    obtain ⟨st', ch, h1, _⟩ := come_below (low t ht) (hin t ht)
    rw [h1] at hc; cases hc
  | some r =>
    obtain ⟨st', ch⟩ := r
    obtain ⟨up, into⟩ := come_up hc
    refine ⟨⟨up.le, fun t ht => ?_, up.wf, fun q hq => ?_, fun q hq => ?_, fun q hq => ?_, ?_⟩, into⟩
    · obtain ⟨st2, ch2, h1, h2⟩ := come_below (low t ht) (hin t ht)
      rw [hc] at h1; cases h1; exact h2
    · show q ∈ (if _ then _ else _)
      split
      · exact List.mem_append_left _ hq
      · exact hq
    · have hq : q ∈ (if (ch && !(s.2.contains to)) = true then s.2 ++ [to] else s.2) := hq
      split at hq
      · rcases List.mem_append.1 hq with h | h
        · exact .inl h
        · simp only [List.mem_singleton] at h; subst h; exact .inr up.kn
      · exact .inl hq
    · have hch : ch = true := by
        cases ch with
        | true => rfl
        | false => exact absurd (by rw [up.same rfl]) hq
      have hqt : q = to := by
        by_cases e : q = to
        · exact e
        · exact absurd (up.far q e) hq
      subst hqt
      show q ∈ (if _ then _ else _)
      rw [hch]
      split
      · simp
      · rename_i h; simpa using h
    · show 2 * mu S st' + (if _ then _ else _ : List Nat).length ≤ _
      cases hch : ch with
      | true =>
        have := up.less hch
        split <;> (try simp only [List.length_append, List.length_singleton]) <;> omega
      | false =>
        simp [up.same hch]

theorem comesW_ok {o : Row} : ∀ (l : List Nat) (s : StF × List Nat), (∀ t, Sol n S fst stp t → LeS s.1 t) → (∀ t, Sol n S fst stp t → ∀ to ∈ l, Into S t to o) →
    match comesW S o l s with
    | none => ¬ ∃ t, Sol n S fst stp t
    | some s' => Fold n S fst stp s s' ∧ ∀ to ∈ l, Into S s'.1 to o
  | [], s, low, hin => ⟨Fold.rfl' low, fun to h => by cases h⟩
  | to :: l, s, low, hin => by
    have h1 := comeW_ok (o := o) (to := to) low (fun t ht => hin t ht to (by simp))
    rw [comesW]
    cases hc : comeW S s to o with
    | none => rw [hc] at h1; exact h1
    | some s1 =>
      rw [hc] at h1
      simp only
      have ih := comesW_ok (o := o) l s1 h1.1.low (fun t ht to' h => hin t ht to' (by simp [h]))
      cases hc2 : comesW S o l s1 with
      | none => rw [hc2] at ih; exact ih
      | some s2 =>
        rw [hc2] at ih
        refine ⟨h1.1.trans ih.1, fun to' h => ?_⟩
        rcases List.mem_cons.1 h with rfl | h
        · exact h1.2.up ih.1.le
        · exact ih.2 to' h

structure InvW (n S : Nat) (fst : Row) (stp : Nat → Row → Option (Row × List Nat)) (s : StF × List Nat) : Prop where
  len : s.1.length = n
  wf : ∀ (q : Nat) (x : Row), s.1[q]? = some (some x) → x.length ≤ S
  low : ∀ t, Sol n S fst stp t → LeS s.1 t
  ent : Into S s.1 0 fst
  kn : ∀ q ∈ s.2, ∃ x, s.1[q]? = some (some x)
  cls : ∀ (q : Nat) (x : Row), s.1[q]? = some (some x) → q ∉ s.2 → ClsAt S stp s.1 q x

theorem stepW_ok (hm : Mono stp) {st : StF} {todo : List Nat} {q : Nat} {x : Row} (inv : InvW n S fst stp (st, todo ++ [q])) (hx : st[q]? = some (some x)) :
    match stp q x with
    | none => ¬ ∃ t, Sol n S fst stp t
    | some (o, l) =>
      match comesW S o l (st, todo) with
      | none => ¬ ∃ t, Sol n S fst stp t
      | some s' => InvW n S fst stp s' ∧ 2 * mu S s'.1 + s'.2.length < 2 * mu S st + (todo ++ [q]).length := by
  have below : ∀ t, Sol n S fst stp t → ∃ y, t[q]? = some (some y) ∧ Le x y := fun t ht => (inv.low t ht).2 q x hx
  cases hs : stp q x with
  | none =>
    rintro ⟨t, ht⟩
    obtain ⟨y, hy, hle⟩ := below t ht
    obtain ⟨o, l, h1, h2⟩ := ht.cls q y hy
    obtain ⟨o', h3, _⟩ := hm q x y hle o l h1
    rw [hs] at h3; cases h3
  | some ol =>
    obtain ⟨o, l⟩ := ol
    have hin : ∀ t, Sol n S fst stp t → ∀ to ∈ l, Into S t to o := by
      intro t ht to hto
      obtain ⟨y, hy, hle⟩ := below t ht
      obtain ⟨o2, l2, h1, h2⟩ := ht.cls q y hy
      obtain ⟨o', h3, h4⟩ := hm q x y hle o2 l2 h1
      rw [hs] at h3; cases h3
      exact (h2 to hto).down h4
    have h := comesW_ok (n := n) (fst := fst) (stp := stp) l (st, todo) inv.low hin
    simp only
    cases hc : comesW S o l (st, todo) with
    | none => rw [hc] at h; exact h
    | some s' =>
      rw [hc] at h
      obtain ⟨fo, hto⟩ := h
      refine ⟨⟨by rw [← fo.le.1]; exact inv.len, fo.wf inv.wf, fo.low, inv.ent.up fo.le, fun p hp => ?_, fun p y hy hp => ?_⟩, ?_⟩
      · rcases fo.kn p hp with h1 | h1
        · obtain ⟨z, hz⟩ := inv.kn p (List.mem_append_left _ h1)
          obtain ⟨w, hw, _⟩ := fo.le.2 p z hz
          exact ⟨w, hw⟩
        · exact h1
      · have hsame : s'.1[p]? = st[p]? := by
          by_cases e : s'.1[p]? = st[p]?
          · exact e
          · exact absurd (fo.chg p e) hp
        rw [hsame] at hy
        by_cases e : p = q
        · subst e
          rw [hx] at hy; cases hy
          exact ⟨o, l, hs, hto⟩
        · obtain ⟨o2, l2, h1, h2⟩ := inv.cls p y hy (fun hm => by
            rcases List.mem_append.1 hm with h | h
            · exact hp (fo.sub p h)
            · simp only [List.mem_singleton] at h; exact e h)
          exact ⟨o2, l2, h1, fun to ht => (h2 to ht).up fo.le⟩
      · have := fo.meas
        simp only [List.length_append, List.length_singleton] at *
        omega

theorem InvW.done {st : StF} (inv : InvW n S fst stp (st, [])) : Least n S fst stp st :=
  ⟨⟨inv.len, inv.wf, inv.ent, fun q x hx => inv.cls q x hx (by simp)⟩, inv.low⟩

/-- The walk's begin. -/
theorem beginW_ok (hS : True) :
    match comeW S (List.replicate n none, []) 0 fst with
    | none => ¬ ∃ t, Sol n S fst stp t
    | some s' => InvW n S fst stp s' ∧ 2 * mu S s'.1 + s'.2.length ≤ 2 * (n * (S + 2)) := by
  have hno : ∀ (q : Nat) (x : Row), ¬ (List.replicate n (none : Option Row))[q]? = some (some x) := by
    intro q x h
    obtain ⟨h1, h2⟩ := List.getElem?_eq_some_iff.1 h
    simp at h2
  have low0 : ∀ t, Sol n S fst stp t → LeS (List.replicate n none) t := fun t ht => ⟨by simp [ht.len], fun q x hx => absurd hx (hno q x)⟩
  have h := comeW_ok (s := (List.replicate n none, [])) (o := fst) (to := 0) (n := n) (S := S) (fst := fst) (stp := stp) low0 (fun t ht => ht.ent)
  cases hc : comeW S (List.replicate n none, []) 0 fst with
  | none => rw [hc] at h; exact h
  | some s' =>
    rw [hc] at h
    obtain ⟨fo, into⟩ := h
    refine ⟨⟨by rw [← fo.le.1]; simp, fo.wf fun q x hx => absurd hx (hno q x), fo.low, into, fun q hq => ?_, fun q x hx hq => ?_⟩, ?_⟩
    · rcases fo.kn q hq with h | h
      · cases h
      · exact h
    · exact absurd (fo.chg q (by rw [hx]; exact fun e => hno q x e.symm)) hq
    · have := fo.meas
      simp only [mu_rep, List.length_nil] at this
      omega

/-! The walk in sweeps. -/
structure LkS where
  st : StF
  ok : Bool
  more : Bool
def comeL (S : Nat) (s : LkS) (to : Nat) (o : Row) : LkS :=
  match comeP S s.st to o with
  | none => ⟨s.st, false, s.more⟩
  | some (st', ch) => ⟨st', s.ok, s.more || ch⟩
def comesL (S : Nat) (o : Row) : List Nat → LkS → LkS
  | [], s => s
  | to :: l, s => comesL S o l (comeL S s to o)

/-- What a step keeps. -/
structure FoldL (n S : Nat) (fst : Row) (stp : Nat → Row → Option (Row × List Nat)) (s s' : LkS) : Prop where
  le : LeS s.st s'.st
  wf : (∀ (q : Nat) (x : Row), s.st[q]? = some (some x) → x.length ≤ S) → ∀ (q : Nat) (x : Row), s'.st[q]? = some (some x) → x.length ≤ S
  bad : s.ok = false → s'.ok = false
  low : s'.ok = true → ∀ t, Sol n S fst stp t → LeS s'.st t
  no : s.ok = true → s'.ok = false → ¬ ∃ t, Sol n S fst stp t
  same : s'.more = false → s'.st = s.st ∧ s.more = false
  mle : mu S s'.st ≤ mu S s.st
  less : s'.more = true → s.more = true ∨ mu S s'.st < mu S s.st

theorem FoldL.rfl' {s : LkS} (h : s.ok = true → ∀ t, Sol n S fst stp t → LeS s.st t) : FoldL n S fst stp s s := ⟨LeS.rfl' _, fun h => h, fun h => h, h, fun h1 h2 => (by rw [h1] at h2; cases h2), fun h => ⟨rfl, h⟩, Nat.le_refl _, fun h => .inl h⟩
theorem FoldL.trans {a b c : LkS} (h : FoldL n S fst stp a b) (g : FoldL n S fst stp b c) : FoldL n S fst stp a c := by
  refine ⟨h.le.trans g.le, fun w => g.wf (h.wf w), fun e => g.bad (h.bad e), g.low, fun h1 h2 => ?_, fun e => ?_, Nat.le_trans g.mle h.mle, fun e => ?_⟩
  · cases hb : b.ok with
    | true => exact g.no hb h2
    | false => exact h.no h1 hb
  · obtain ⟨e1, e2⟩ := g.same e
    obtain ⟨e3, e4⟩ := h.same e2
    exact ⟨e1.trans e3, e4⟩
  · rcases g.less e with e | e
    · rcases h.less e with e | e
      · exact .inl e
      · exact .inr (Nat.lt_of_le_of_lt g.mle e)
    · exact .inr (Nat.lt_of_lt_of_le e h.mle)

theorem comeL_ok {s : LkS} {to : Nat} {o : Row} (low : s.ok = true → ∀ t, Sol n S fst stp t → LeS s.st t) (hin : s.ok = true → ∀ t, Sol n S fst stp t → Into S t to o) :
    FoldL n S fst stp s (comeL S s to o) ∧ ((comeL S s to o).ok = true → Into S (comeL S s to o).st to o) := by
  unfold comeL
  cases hc : comeP S s.st to o with
  | none =>
    refine ⟨⟨LeS.rfl' _, fun h => h, fun _ => rfl, fun e => (by cases e), fun h1 _ => ?_, fun e => ⟨rfl, e⟩, Nat.le_refl _, fun e => .inl e⟩, fun e => (by cases e)⟩
    rintro ⟨t, ht⟩
    obtain ⟨st', ch, h1, _⟩ := come_below (low h1 t ht) (hin h1 t ht)
    rw [h1] at hc; cases hc
  | some r =>
    obtain ⟨st', ch⟩ := r
    obtain ⟨up, into⟩ := come_up hc
    refine ⟨⟨up.le, up.wf, fun e => e, fun e t ht => ?_, fun h1 h2 => ?_, fun e => ?_, ?_, fun e => ?_⟩, fun _ => into⟩
    · obtain ⟨st2, ch2, h1, h2⟩ := come_below (low e t ht) (hin e t ht)
      rw [hc] at h1; cases h1; exact h2
    · rw [h1] at h2; cases h2
    · simp only [Bool.or_eq_false_iff] at e
      exact ⟨up.same e.2, e.1⟩
    · cases hch : ch with
      | true => exact Nat.le_of_lt (up.less hch)
      | false => rw [up.same hch]; exact Nat.le_refl _
    · simp only [Bool.or_eq_true] at e
      rcases e with e | e
      · exact .inl e
      · exact .inr (up.less e)

theorem comesL_ok {o : Row} : ∀ (l : List Nat) (s : LkS), (s.ok = true → ∀ t, Sol n S fst stp t → LeS s.st t) → (s.ok = true → ∀ t, Sol n S fst stp t → ∀ to ∈ l, Into S t to o) →
    FoldL n S fst stp s (comesL S o l s) ∧ ((comesL S o l s).ok = true → ∀ to ∈ l, Into S (comesL S o l s).st to o)
  | [], s, low, hin => ⟨FoldL.rfl' low, fun _ to h => by cases h⟩
  | to :: l, s, low, hin => by
    have h1 := comeL_ok (o := o) (to := to) low (fun e t ht => hin e t ht to (by simp))
    have ih := comesL_ok (o := o) l (comeL S s to o) h1.1.low (fun e t ht to' h => by
      have : s.ok = true := by
        cases hs : s.ok with
        | true => rfl
        | false => rw [h1.1.bad hs] at e; cases e
      exact hin this t ht to' (by simp [h]))
    rw [comesL]
    refine ⟨h1.1.trans ih.1, fun e to' h => ?_⟩
    rcases List.mem_cons.1 h with rfl | h
    · refine (h1.2 ?_).up ih.1.le
      cases hs : (comeL S s to' o).ok with
      | true => rfl
      | false => rw [ih.1.bad hs] at e; cases e
    · exact ih.2 e to' h

def stepL (S : Nat) (stp : Nat → Row → Option (Row × List Nat)) (s : LkS) (q : Nat) (x : Row) : LkS :=
  match stp q x with
  | none => ⟨s.st, false, s.more⟩
  | some (o, l) => comesL S o l s

theorem stepL_ok (hm : Mono stp) {s : LkS} {q : Nat} {x : Row} (low : s.ok = true → ∀ t, Sol n S fst stp t → LeS s.st t) (hx : s.st[q]? = some (some x)) :
    FoldL n S fst stp s (stepL S stp s q x) ∧ ((stepL S stp s q x).ok = true → ∃ o l, stp q x = some (o, l) ∧ ∀ to ∈ l, Into S (stepL S stp s q x).st to o) := by
  unfold stepL
  cases hs : stp q x with
  | none =>
    refine ⟨⟨LeS.rfl' _, fun h => h, fun _ => rfl, fun e => (by cases e), fun h1 _ => ?_, fun e => ⟨rfl, e⟩, Nat.le_refl _, fun e => .inl e⟩, fun e => (by cases e)⟩
    rintro ⟨t, ht⟩
    obtain ⟨y, hy, hle⟩ := (low h1 t ht).2 q x hx
    obtain ⟨o, l, h1, h2⟩ := ht.cls q y hy
    obtain ⟨o', h3, _⟩ := hm q x y hle o l h1
    rw [hs] at h3; cases h3
  | some ol =>
    obtain ⟨o, l⟩ := ol
    have h := comesL_ok (n := n) (S := S) (fst := fst) (stp := stp) (o := o) l s low (fun e t ht to hto => by
      obtain ⟨y, hy, hle⟩ := (low e t ht).2 q x hx
      obtain ⟨o2, l2, h1, h2⟩ := ht.cls q y hy
      obtain ⟨o', h3, h4⟩ := hm q x y hle o2 l2 h1
      rw [hs] at h3; cases h3
      exact (h2 to hto).down h4)
    exact ⟨h.1, fun e => ⟨o, l, rfl, h.2 e⟩⟩

/-- In a sweep: of the places ahead of k. -/
structure InvL (n S : Nat) (fst : Row) (stp : Nat → Row → Option (Row × List Nat)) (s : LkS) : Prop where
  len : s.st.length = n
  wf : ∀ (q : Nat) (x : Row), s.st[q]? = some (some x) → x.length ≤ S
  low : s.ok = true → ∀ t, Sol n S fst stp t → LeS s.st t
  ent : s.ok = true → Into S s.st 0 fst
  no : s.ok = false → ¬ ∃ t, Sol n S fst stp t
theorem InvL.fold {s s' : LkS} (inv : InvL n S fst stp s) (fo : FoldL n S fst stp s s') : InvL n S fst stp s' := by
  refine ⟨by rw [← fo.le.1]; exact inv.len, fo.wf inv.wf, fo.low, fun e => ?_, fun e => ?_⟩
  · have : s.ok = true := by
      cases hs : s.ok with
      | true => rfl
      | false => rw [fo.bad hs] at e; cases e
    exact (inv.ent this).up fo.le
  · cases hs : s.ok with
    | true => exact fo.no hs e
    | false => exact inv.no hs
/-- Places ahead of k that ask for nothing more, if nothing was found. -/
def Swept (S : Nat) (stp : Nat → Row → Option (Row × List Nat)) (s : LkS) (k : Nat) : Prop := s.ok = true → s.more = false → ∀ (q : Nat) (x : Row), q < k → s.st[q]? = some (some x) → ClsAt S stp s.st q x
theorem Swept.skip {s : LkS} {k : Nat} (h : Swept S stp s k) (hk : ∀ x, s.st[k]? ≠ some (some x)) : Swept S stp s (k + 1) := fun a b q x hq hx => by
  by_cases e : q = k
  · subst e; exact absurd hx (hk x)
  · exact h a b q x (by omega) hx
theorem Swept.step (hm : Mono stp) {s : LkS} {k : Nat} {x : Row} (inv : InvL n S fst stp s) (h : Swept S stp s k) (hx : s.st[k]? = some (some x)) : Swept S stp (stepL S stp s k x) (k + 1) := by
  obtain ⟨fo, hs⟩ := stepL_ok (n := n) (fst := fst) hm inv.low hx
  intro a b q y hq hy
  obtain ⟨e1, e2⟩ := fo.same b
  have hok : s.ok = true := by
    cases h1 : s.ok with
    | true => rfl
    | false => rw [fo.bad h1] at a; cases a
  by_cases e : q = k
  · subst e
    rw [e1, hx] at hy; cases hy
    exact hs a
  · have := h hok e2 q y (by omega) (by rw [← e1]; exact hy)
    obtain ⟨o, l, h1, h2⟩ := this
    exact ⟨o, l, h1, fun to ht => by rw [e1]; exact h2 to ht⟩
theorem InvL.done {s : LkS} (inv : InvL n S fst stp s) (h : Swept S stp s n) (hok : s.ok = true) (hmore : s.more = false) : Least n S fst stp s.st :=
  ⟨⟨inv.len, inv.wf, inv.ent hok, fun q x hx => h hok hmore q x (by have := (List.getElem?_eq_some_iff.1 hx).1; rw [inv.len] at this; exact this) hx⟩, inv.low hok⟩

theorem beginL_ok (hS : True) : InvL n S fst stp (comeL S ⟨List.replicate n none, true, false⟩ 0 fst) ∧ ((comeL S ⟨List.replicate n none, true, false⟩ 0 fst).ok = true → (comeL S ⟨List.replicate n none, true, false⟩ 0 fst).more = true) := by
  have hno : ∀ (q : Nat) (x : Row), ¬ (List.replicate n (none : Option Row))[q]? = some (some x) := by
    intro q x h
    obtain ⟨h1, h2⟩ := List.getElem?_eq_some_iff.1 h
    simp at h2
  have low0 : ∀ t, Sol n S fst stp t → LeS (List.replicate n none) t := fun t ht => ⟨by simp [ht.len], fun q x hx => absurd hx (hno q x)⟩
  obtain ⟨fo, into⟩ := comeL_ok (s := ⟨List.replicate n none, true, false⟩) (o := fst) (to := 0) (n := n) (S := S) (fst := fst) (stp := stp) (fun _ => low0) (fun _ t ht => ht.ent)
  refine ⟨⟨by rw [← fo.le.1]; simp, fo.wf fun q x hx => absurd hx (hno q x), fo.low, into, fun e => fo.no rfl e⟩, fun e => ?_⟩
  cases h : (comeL S ⟨List.replicate n none, true, false⟩ 0 fst).more with
  | true => rfl
  | false =>
    obtain ⟨y, hy, _⟩ := into e
    rw [(fo.same h).1] at hy
    exact absurd hy (hno 0 y)
end
end Go.Proofs.Ytcdafogfmijcpaa.M
namespace Go.Proofs.Ytcdafogfmijcpaa.M
open Go.Proofs.YtcdafogfmijcpaaW.Ah Go.Proofs.Ytcdafogfmijcpaa
set_option linter.unusedVariables false
set_option linter.unusedSimpArgs false

def wantsP (op : Int) : Int := if op = 8 then 1 else if op = 11 then 3 else 2
def takesP (i : api_Inst) : Int := if fitI i = true then (if i.Op = 3 ∨ i.Op = 6 then i.B else if i.Op = 5 then wantsP i.A else if i.Op = 8 then i.A + 1 else (rowI i).takes) else 0
def putsP (i : api_Inst) : Int := if fitI i = true then (rowI i).puts else 0
def allP (i : api_Inst) (k : Int) : Int := if k = 0 then i.A else if k = 1 then i.B else i.C
def goesP (i : api_Inst) : List Int := if fitI i = true then (if 0 ≤ (rowI i).to then [allP i (rowI i).to] else []) else []
def nextP (i : api_Inst) : Bool := if fitI i = true then (rowI i).next else false
def z36 : api_Func := ⟨⟨#[]⟩, 0, 0, []⟩
def thereP (c : api_Code) (i : api_Inst) (left : Int) : Bool :=
  if i.Op = 1 then decide (i.A < c.Texts.length)
  else if i.Op = 6 then decide (i.A < c.Funs.length) && decide ((c.Funs.getD i.A.toNat z36).Params = i.B)
  else if i.Op = 11 then decide (i.B < c.Tables.length) && decide (i.A < left)
  else if i.Op = 2 ∨ i.Op = 4 ∨ i.Op = 12 ∨ i.Op = 13 ∨ i.Op = 14 then decide (i.A < left)
  else true
def putP (i : api_Inst) (s : Row) : Bool :=
  if i.Op = 0 then false
  else if i.Op = 5 then decide (10 ≤ i.A)
  else if i.Op = 2 then s.getD i.A.toNat false
  else if i.Op = 8 then s.getD (s.length - 1) false
  else true
def outP (i : api_Inst) (s : Row) : Row :=
  let left := s.length - (takesP i).toNat
  let b := s.take left ++ (if 0 < putsP i then [putP i s] else [])
  if i.Op = 14 then b.set i.A.toNat (s.getD left false) else b
def tgP (c : api_Code) (i : api_Inst) (at_ : Int) : List Int :=
  (if i.Op = 11 then (c.Tables.getD i.B.toNat []).filter (fun n => decide (0 ≤ n)) else goesP i) ++ (if nextP i = true then [at_ + 1] else [])
def stpC (c : api_Code) (f : api_Func) (q : Nat) (x : Row) : Option (Row × List Nat) :=
  match f.Code[q]? with
  | none => none
  | some i => if (takesP i).toNat ≤ x.length ∧ thereP c i ((x.length - (takesP i).toNat : Nat) : Int) = true then some (outP i x, (tgP c i (q : Nat)).map Int.toNat) else none

theorem Le.get {x y : Row} (h : Le x y) (k : Nat) (hk : x.getD k false = true) : y.getD k false = true := by
  rw [List.getD_eq_getElem?_getD] at hk ⊢
  cases hx : x[k]? with
  | none => rw [hx] at hk; simp at hk
  | some b =>
    rw [hx] at hk
    simp only [Option.getD_some] at hk
    subst hk
    rw [h.2 k hx]; rfl
theorem putP_mono (i : api_Inst) {x y : Row} (h : Le x y) (hp : putP i x = true) : putP i y = true := by
  unfold putP at hp ⊢
  split
  · rename_i e; rw [if_pos e] at hp; exact hp
  · rename_i e
    rw [if_neg e] at hp
    split
    · rename_i e; rw [if_pos e] at hp; exact hp
    · rename_i e
      rw [if_neg e] at hp
      split
      · rename_i e; rw [if_pos e] at hp; exact h.get _ hp
      · rename_i e
        rw [if_neg e] at hp
        split
        · rename_i e; rw [if_pos e] at hp; rw [← h.1]; exact h.get _ hp
        · rfl
theorem Le.app {a b : Row} {u v : Row} (h : Le a b) (g : Le u v) : Le (a ++ u) (b ++ v) := by
  refine ⟨by rw [List.length_append, List.length_append, h.1, g.1], fun k hk => ?_⟩
  rw [List.getElem?_append] at hk ⊢
  split at hk
  · rename_i e; rw [if_pos (by rw [← h.1]; exact e)]; exact h.2 k hk
  · rename_i e; rw [if_neg (by rw [← h.1]; exact e), ← h.1]; exact g.2 _ hk
theorem Le.take {a b : Row} (h : Le a b) (m : Nat) : Le (a.take m) (b.take m) := by
  refine ⟨by rw [List.length_take, List.length_take, h.1], fun k hk => ?_⟩
  rw [List.getElem?_take] at hk ⊢
  split at hk
  · rename_i e; rw [if_pos e]; exact h.2 k hk
  · cases hk
theorem Le.set {a b : Row} (h : Le a b) (q : Nat) {u v : Bool} (g : u = true → v = true) : Le (a.set q u) (b.set q v) := by
  refine ⟨by rw [List.length_set, List.length_set, h.1], fun k hk => ?_⟩
  by_cases e : k = q
  · subst e
    have hl := (List.getElem?_eq_some_iff.1 hk).1
    rw [List.length_set] at hl
    rw [List.getElem?_set_self hl] at hk
    rw [List.getElem?_set_self (by rw [← h.1]; exact hl), g (by simpa using hk)]
  · rw [List.getElem?_set_ne (Ne.symm e)] at hk ⊢
    exact h.2 k hk
theorem outP_mono (i : api_Inst) {x y : Row} (h : Le x y) : Le (outP i x) (outP i y) := by
  have hb : Le (x.take (x.length - (takesP i).toNat) ++ (if 0 < putsP i then [putP i x] else [])) (y.take (y.length - (takesP i).toNat) ++ (if 0 < putsP i then [putP i y] else [])) := by
    rw [← h.1]
    refine (h.take _).app ?_
    split
    · refine ⟨rfl, fun k hk => ?_⟩
      cases k with
      | zero => simp only [List.getElem?_cons_zero, Option.some.injEq] at hk ⊢; exact putP_mono i h hk
      | succ k => simp at hk
    · exact Le.rfl' _
  unfold outP
  simp only
  split
  · refine hb.set _ fun e => ?_
    rw [← h.1]; exact h.get _ e
  · exact hb
theorem stpC_mono (c : api_Code) (f : api_Func) : Mono (stpC c f) := by
  intro q x y h o l hs
  unfold stpC at hs ⊢
  cases hi : f.Code[q]? with
  | none => rw [hi] at hs; cases hs
  | some i =>
    rw [hi] at hs
    simp only at hs ⊢
    rw [h.1]
    split at hs
    · rename_i hg
      cases hs
      rw [if_pos hg]
      exact ⟨_, rfl, outP_mono i h⟩
    · cases hs

/-! A code's slots. -/
def fitFun (f : api_Func) : Bool := decide (f.Name.size ≤ 64) && (decide (0 ≤ f.Params) && decide (f.Params ≤ 6) && (decide (0 ≤ f.Slots) && decide (f.Slots ≤ 8192)) && (decide (1 ≤ f.Code.length) && decide (f.Code.length ≤ 1048576)) && f.Code.all fitI)
def smallC (c : api_Code) : Bool := decide (c.Funs.length ≤ 2 ^ 47) && c.Funs.all (fun f => decide (f.Code.length ≤ 2 ^ 47)) && decide (c.Texts.length ≤ 2 ^ 47) && decide (c.Tables.length ≤ 2 ^ 47) && c.Tables.all (fun l => decide (l.length ≤ 2 ^ 47))
noncomputable def specP (c : api_Code) (f : api_Func) : Option StF := leastP f.Code.length f.Slots.toNat (List.replicate f.Params.toNat true) (stpC c f)
def rowsOf (st : StF) : List (List Bool) := st.map (fun r => r.getD [])
noncomputable def specsP (c : api_Code) : List api_Func → Option (List (List (List Bool)))
  | [] => some []
  | f :: l => match specP c f with | none => none | some st => match specsP c l with | none => none | some out => some (rowsOf st :: out)
end Go.Proofs.Ytcdafogfmijcpaa.M
namespace Go.Proofs.Ytcdafogfmijcpaa.M
open Go.Proofs.YtcdafogfmijcpaaW.Ah Go.Proofs.Ytcdafogfmijcpaa
set_option linter.unusedVariables false
set_option linter.unusedSimpArgs false

def fitTab (t : List Int) : Bool := decide (1 ≤ t.length) && decide (t.length ≤ 16) && t.all (fun n => decide (-1 ≤ n) && decide (n ≤ 1048575))
def fitC (c : api_Code) : Bool := decide (c.Funs.length ≤ 80) && decide (c.Texts.length ≤ 4096) && decide (c.Tables.length ≤ 65536) && (c.Funs.all fitFun && c.Texts.all (fun t => decide (t.length ≤ 64)) && c.Tables.all fitTab)
noncomputable def flowP (c : api_Code) : Option (List (List (List Bool)) × Int) :=
  if smallC c = true then some (if fitC c = true then (match specsP c c.Funs with | some out => (out, 0) | none => ([], 24)) else ([], 19)) else none
end Go.Proofs.Ytcdafogfmijcpaa.M
