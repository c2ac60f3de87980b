/-
  Graphs: whether two are the same, their words, few of them (plain).
-/
import Derived.Test.YtfflojbgikfbmaaGA
namespace Go.Proofs.Ytfflojbgikfbmaa.M
open Go.Proofs.YtfflojbgikfbmaaW.Ah Go.Proofs.Ytfflojbgikfbmaa
set_option linter.unusedVariables false
set_option linter.unusedSimpArgs false

def listB {α : Type} (e : α → α → Bool) : List α → List α → Bool
  | [], [] => true
  | a :: xs, b :: ys => e a b && listB e xs ys
  | _, _ => false
theorem listB_len {α : Type} {e : α → α → Bool} : ∀ (xs ys : List α), xs.length ≠ ys.length → listB e xs ys = false
  | [], [], h => absurd rfl h
  | [], _ :: _, _ => rfl
  | _ :: _, [], _ => rfl
  | a :: xs, b :: ys, h => by rw [listB, listB_len xs ys (fun e => h (by simp [e]))]; simp
theorem listB_refl {α : Type} {e : α → α → Bool} (he : ∀ a, e a a = true) : ∀ xs : List α, listB e xs xs = true
  | [] => rfl
  | a :: xs => by rw [listB, he, listB_refl he xs]; rfl
theorem listB_congr {α : Type} {e f : α → α → Bool} : ∀ (xs ys : List α), (∀ a ∈ xs, ∀ b ∈ ys, e a b = f a b) → listB e xs ys = listB f xs ys
  | [], [], _ => rfl
  | [], _ :: _, _ => rfl
  | _ :: _, [], _ => rfl
  | a :: xs, b :: ys, h => by rw [listB, listB, h a (by simp) b (by simp), listB_congr xs ys (fun x hx y hy => h x (by simp [hx]) y (by simp [hy]))]
/-- Any of these loops. -/
theorem loopB {α : Type} {e : α → α → Bool} {L : Nat → Int → Option Bool} (xs ys : List α) (hlen : xs.length = ys.length) (hl : xs.length ≤ 4000000000000000000)
    (hstep : ∀ (m q : Nat) (hx : q < xs.length) (hy : q < ys.length), L (m + 1) q = bif e xs[q] ys[q] then L m (IntKind.i64.wrap ((q : Int) + 1)) else some false) (hend : ∀ m : Nat, L (m + 1) xs.length = some true) :
    ∀ (m q : Nat), q ≤ xs.length → xs.length - q < m → L m q = some (listB e (xs.drop q) (ys.drop q)) := by
  intro m
  induction m with
  | zero => intro q _ h; omega
  | succ m ih =>
    intro q hq hm
    by_cases h : q < xs.length
    · rw [hstep m q h (by omega), List.drop_eq_getElem_cons h, List.drop_eq_getElem_cons (show q < ys.length by omega), listB]
      rw [show IntKind.i64.wrap ((q : Int) + 1) = ((q + 1 : Nat) : Int) by rw [wrap64_id (by omega) (by omega)]; omega]
      cases e xs[q] ys[q]
      · rfl
      · simp only [cond_true, Bool.true_and]
        exact ih (q + 1) (by omega) (by omega)
    · have hqe : q = xs.length := by omega
      subst hqe
      rw [hend, List.drop_length, hlen, List.drop_length]; rfl

def eB (e f : api_Edge) : Bool := (e.Is == f.Is) && ((e.Node == f.Node) && ((e.Num == f.Num)))
theorem eB_refl (e : api_Edge) : eB e e = true := by simp [eB]
def hB (a b : api_Head) : Bool := (a.Kind == b.Kind) && ((a.Tag == b.Tag) && ((a.Count == b.Count)))
theorem idxg {α : Type} (xs : List α) {q : Nat} (h : q < xs.length) : idx xs (q : Int) = some xs[q] := by rw [idx_nat, List.getElem?_eq_getElem h]
theorem d1 {q n : Nat} (h : q < n) : decide ((q : Int) < (n : Int)) = true := by simp; omega
theorem d0 (n : Nat) : decide ((n : Int) < (n : Int)) = false := by simp

theorem sEq_ok (F : Nat) (x y : List api_Edge) (hF : x.length < F) (hl : x.length ≤ 4000000000000000000) : slices_Equal_api_Edge_api_Edge F x y = some (listB eB x y) := by
  rw [slices_Equal_api_Edge_api_Edge]
  by_cases h : x.length = y.length
  · rw [show ((x.length : Int) != (y.length : Int)) = false by simp [h]]
    have := loopB (e := eB) (L := fun m v => slices_Equal_api_Edge_api_Edge_L0 F x y m v) x y h hl (fun m q hx hy => by
      simp only [slices_Equal_api_Edge_api_Edge_L0, d1 hx, cond_true, idxg x hx, idxg y hy, Option.bind_some]
      show (bif !(eB x[q] y[q]) then _ else _) = _
      cases eB x[q] y[q] <;> rfl) (fun m => by simp only [slices_Equal_api_Edge_api_Edge_L0, d0, cond_false]) F 0 (by omega) (by omega)
    simpa using this
  · rw [show ((x.length : Int) != (y.length : Int)) = true by simp; omega, listB_len _ _ h]; rfl
theorem rEq_ok (F : Nat) (x y : List api_Edge) (hF : x.length < F) (hl : x.length ≤ 4000000000000000000) : R17_edges F x y = some (listB eB x y) := by
  rw [R17_edges]
  by_cases h : x.length = y.length
  · rw [show ((x.length : Int) != (y.length : Int)) = false by simp [h]]
    have := loopB (e := eB) (L := fun m v => R17_edges_L0 F x y m v) x y h hl (fun m q hx hy => by
      simp only [R17_edges_L0, d1 hx, cond_true, idxg x hx, idxg y hy, Option.bind_some]
      show (bif !(eB x[q] y[q]) then _ else _) = _
      cases eB x[q] y[q] <;> rfl) (fun m => by simp only [R17_edges_L0, d0, cond_false]) F 0 (by omega) (by omega)
    simpa using this
  · rw [show ((x.length : Int) != (y.length : Int)) = true by simp; omega, listB_len _ _ h]; rfl
def bB (a b : Int) : Bool := a == b
theorem yEq_ok (F : Nat) (x y : List Int) (hF : x.length < F) (hl : x.length ≤ 4000000000000000000) : slices_Equal_byte_byte F x y = some (listB bB x y) := by
  rw [slices_Equal_byte_byte]
  by_cases h : x.length = y.length
  · rw [show ((x.length : Int) != (y.length : Int)) = false by simp [h]]
    have := loopB (e := bB) (L := fun m v => slices_Equal_byte_byte_L0 F x y m v) x y h hl (fun m q hx hy => by
      simp only [slices_Equal_byte_byte_L0, d1 hx, cond_true, idxg x hx, idxg y hy, Option.bind_some]
      show (bif !(bB x[q] y[q]) then _ else _) = _
      cases bB x[q] y[q] <;> rfl) (fun m => by simp only [slices_Equal_byte_byte_L0, d0, cond_false]) F 0 (by omega) (by omega)
    simpa using this
  · rw [show ((x.length : Int) != (y.length : Int)) = true by simp; omega, listB_len _ _ h]; rfl

/-! Texts of bytes. -/
theorem text_list (x : List Int) : (textOf x).data.toList = x.map fun n => UInt8.ofNat n.toNat := by
  have key : ∀ (x : List Int) (a : ByteArray), (x.foldl (fun r n => r.push (UInt8.ofNat n.toNat)) a).data.toList = a.data.toList ++ x.map fun n => UInt8.ofNat n.toNat := by
    intro x
    induction x with
    | nil => intro a; simp
    | cons n x ih => intro a; rw [List.foldl_cons, ih]; simp [ByteArray.push]
  have := key x ByteArray.empty
  unfold textOf
  rw [this]; simp
theorem toList_data (b : ByteArray) : b.toList = b.data.toList := ByteArray.toList_eq b
theorem text_eq (x y : List Int) (hx : ∀ v ∈ x, 0 ≤ v ∧ v ≤ 255) (hy : ∀ v ∈ y, 0 ≤ v ∧ v ≤ 255) : ((textOf x).toList == (textOf y).toList) = listB bB x y := by
  rw [toList_data, toList_data, text_list, text_list]
  have inj : ∀ a b : Int, (0 ≤ a ∧ a ≤ 255) → (0 ≤ b ∧ b ≤ 255) → UInt8.ofNat a.toNat = UInt8.ofNat b.toNat → a = b := by
    intro a b ha hb h
    have := congrArg UInt8.toNat h
    simp at this
    omega
  induction x generalizing y with
  | nil => cases y <;> rfl
  | cons a x ih =>
    cases y with
    | nil => rfl
    | cons b y =>
      rw [listB, List.map_cons, List.map_cons, List.cons_beq_cons, ih y (fun v hv => hx v (by simp [hv])) (fun v hv => hy v (by simp [hv]))]
      congr 1
      unfold bB
      by_cases h : a = b
      · simp [h]
      · have h1 : ¬ UInt8.ofNat a.toNat = UInt8.ofNat b.toNat := fun e => h (inj a b (hx a (by simp)) (hy b (by simp)) e)
        rw [beq_false_of_ne h, beq_false_of_ne h1]

def nB (a b : api_Node) : Bool := hB a.Head b.Head && (listB bB a.Bytes b.Bytes && listB eB a.Kids b.Kids)
theorem nB_refl (a : api_Node) : nB a a = true := by
  have h1 : listB bB a.Bytes a.Bytes = true := listB_refl (fun v => by simp [bB]) _
  have h2 : listB eB a.Kids a.Kids = true := listB_refl eB_refl _
  simp [nB, hB, h1, h2]
/-- Lists of few nodes. -/
structure FewF (F : Nat) (l : List api_Node) : Prop where
  len : l.length < F ∧ l.length ≤ 4000000000000000000
  nodes : ∀ n ∈ l, (n.Kids.length < F ∧ n.Kids.length ≤ 4000000000000000000) ∧ (n.Bytes.length < F ∧ n.Bytes.length ≤ 4000000000000000000) ∧ ∀ v ∈ n.Bytes, 0 ≤ v ∧ v ≤ 255
def sameB (a b : List api_Node) (x y : List api_Edge) : Bool := listB eB x y && listB nB a b

theorem gSame_ok (F : Nat) (a b : List api_Node) (x y : List api_Edge) (ha : FewF F a) (hx : x.length < F ∧ x.length ≤ 4000000000000000000) : graph_Same F a b x y = some (sameB a b x y) := by
  rw [graph_Same, sEq_ok F x y hx.1 hx.2]
  simp only [Option.bind_some, joinM, sameB]
  cases listB eB x y with
  | false => rfl
  | true =>
    have hf : ∀ n ∈ a, ∀ n' : api_Node, graph_Same_1 F n n' = some (nB n n') := by
      intro n hn n'
      obtain ⟨⟨k1, k2⟩, ⟨b1, b2⟩, _⟩ := ha.nodes n hn
      rw [graph_Same_1, yEq_ok F _ _ b1 b2, sEq_ok F _ _ k1 k2]
      simp only [joinM, Option.bind_some, nB, hB]
      cases (n.Head.Kind == n'.Head.Kind) && ((n.Head.Tag == n'.Head.Tag) && ((n.Head.Count == n'.Head.Count))) <;> cases listB bB n.Bytes n'.Bytes <;> simp
    have : slices_EqualFunc_api_Node_api_Node_api_Node_api_Node F a b (fun y0 y1 => graph_Same_1 F y0 y1) = some (listB nB a b) := by
      rw [slices_EqualFunc_api_Node_api_Node_api_Node_api_Node]
      by_cases h : a.length = b.length
      · rw [show ((a.length : Int) != (b.length : Int)) = false by simp [h]]
        have := loopB (e := nB) (L := fun m v => slices_EqualFunc_api_Node_api_Node_api_Node_api_Node_L0 F a b (fun y0 y1 => graph_Same_1 F y0 y1) m v) a b h ha.len.2 (fun m q hx hy => by
          simp only [slices_EqualFunc_api_Node_api_Node_api_Node_api_Node_L0, d1 hx, cond_true, idxg a hx, idxg b hy, Option.bind_some, hf a[q] (List.getElem_mem hx)]
          cases nB a[q] b[q] <;> rfl) (fun m => by simp only [slices_EqualFunc_api_Node_api_Node_api_Node_api_Node_L0, d0, cond_false]) F 0 (by omega) (by have := ha.len.1; omega)
        simpa using this
      · rw [show ((a.length : Int) != (b.length : Int)) = true by simp; omega, listB_len _ _ h]; rfl
    simp only [cond_true, this, Option.bind_some, Bool.true_and]

theorem rSame_ok (F : Nat) (a b : List api_Node) (x y : List api_Edge) (ha : FewF F a) (hb : ∀ n ∈ b, ∀ v ∈ n.Bytes, 0 ≤ v ∧ v ≤ 255) (hx : x.length < F ∧ x.length ≤ 4000000000000000000) : R17_Same F a b x y = some (sameB a b x y) := by
  rw [R17_Same, rEq_ok F x y hx.1 hx.2]
  simp only [Option.bind_some, joinM, sameB]
  by_cases h : a.length = b.length
  · rw [show ((a.length : Int) != (b.length : Int)) = false by simp [h]]
    cases listB eB x y with
    | false => rfl
    | true =>
      simp only [cond_false, Bool.not_true, Bool.true_and]
      have := loopB (e := nB) (L := fun m v => R17_Same_L0 F a b m v) a b h ha.len.2 (fun m q hx hy => by
        obtain ⟨⟨k1, k2⟩, _, b3⟩ := ha.nodes a[q] (List.getElem_mem hx)
        simp only [R17_Same_L0, d1 hx, cond_true, idxg a hx, idxg b hy, Option.bind_some, joinM, rEq_ok F _ _ k1 k2, text_eq _ _ b3 (hb b[q] (List.getElem_mem hy))]
        simp only [nB, hB]
        cases (a[q].Head.Kind == b[q].Head.Kind) && ((a[q].Head.Tag == b[q].Head.Tag) && ((a[q].Head.Count == b[q].Head.Count))) <;> cases listB bB a[q].Bytes b[q].Bytes <;> cases listB eB a[q].Kids b[q].Kids <;> rfl) (fun m => by simp only [R17_Same_L0, d0, cond_false]) F 0 (by omega) (by have := ha.len.1; omega)
      simpa using this
  · rw [show ((a.length : Int) != (b.length : Int)) = true by simp; omega, listB_len a b h]
    simp

theorem same_refl (a : List api_Node) (x : List api_Edge) : sameB a a x x = true := by
  have h1 : listB eB x x = true := listB_refl eB_refl _
  have h2 : listB nB a a = true := listB_refl nB_refl _
  simp [sameB, h1, h2]

/-! Words. -/
def wordsP (l : List api_Node) : Int → Int := l.foldl (fun v n => IntKind.i64.wrap (v + sizeV n.Head))
theorem words_ok (F : Nat) (a : List api_Node) (hF : a.length < F) (hl : a.length ≤ 4000000000000000000) : graph_Words F a = some (wordsP a 0) ∧ R17_Words F a = some (wordsP a 0) := by
  have k1 : ∀ (m q : Nat) (v : Int), q ≤ a.length → a.length - q < m → graph_Words_L0 F a m v q = some (wordsP (a.drop q) v) ∧ R17_Words_L0 F a m v q = some (wordsP (a.drop q) v) := by
    intro m
    induction m with
    | zero => intro q v _ h; omega
    | succ m ih =>
      intro q v hq hm
      rw [graph_Words_L0, R17_Words_L0]
      by_cases h : q < a.length
      · simp only [d1 h, cond_true, idxg a h, Option.bind_some, size_ok, size16_ok]
        rw [show IntKind.i64.wrap ((q : Int) + 1) = ((q + 1 : Nat) : Int) by rw [wrap64_id (by omega) (by omega)]; omega, List.drop_eq_getElem_cons h]
        exact ih (q + 1) _ (by omega) (by omega)
      · have hqe : q = a.length := by omega
        subst hqe
        simp only [d0, cond_false, List.drop_length]
        exact ⟨rfl, rfl⟩
  have := k1 F 0 0 (by omega) (by omega)
  rw [graph_Words, R17_Words]
  simpa using this

/-! Few nodes. -/
def fewP : List api_Node → Int → Bool
  | [], _ => true
  | n :: l, v => let w := IntKind.i64.wrap (v + IntKind.i64.wrap (IntKind.i64.wrap (1 + (n.Kids.length : Int)) + (n.Bytes.length : Int))); if 600 < w then false else fewP l w
theorem fewP_ok : ∀ (l : List api_Node) (v : Int), (∀ n ∈ l, n.Kids.length ≤ reachBytes ∧ n.Bytes.length ≤ reachBytes) → 0 ≤ v → v ≤ 600 → fewP l v = true → v + (l.length : Int) ≤ 600 ∧ ∀ n ∈ l, n.Kids.length ≤ 600 ∧ n.Bytes.length ≤ 600
  | [], v, _, h0, h1, _ => ⟨by simp; omega, by simp⟩
  | n :: l, v, hn, h0, h1, h => by
    obtain ⟨k1, k2⟩ := hn n (by simp)
    unfold reachBytes at k1 k2
    have w1 : IntKind.i64.wrap (1 + (n.Kids.length : Int)) = 1 + (n.Kids.length : Int) := wrap64_id (by omega) (by omega)
    have w2 : IntKind.i64.wrap (1 + (n.Kids.length : Int) + (n.Bytes.length : Int)) = 1 + (n.Kids.length : Int) + (n.Bytes.length : Int) := wrap64_id (by omega) (by omega)
    have w3 : IntKind.i64.wrap (v + (1 + (n.Kids.length : Int) + (n.Bytes.length : Int))) = v + (1 + (n.Kids.length : Int) + (n.Bytes.length : Int)) := wrap64_id (by omega) (by omega)
    rw [fewP] at h
    simp only [w1, w2, w3] at h
    split at h
    · cases h
    · obtain ⟨q1, q2⟩ := fewP_ok l _ (fun m hm => hn m (by simp [hm])) (by omega) (by omega) h
      refine ⟨by rw [List.length_cons]; omega, fun m hm => ?_⟩
      rcases List.mem_cons.1 hm with rfl | hm
      · exact ⟨by omega, by omega⟩
      · exact q2 m hm
theorem few_ok (F : Nat) (a : List api_Node) (hF : a.length < F) (hl : a.length ≤ 4000000000000000000) : L17_few F a = some (fewP a 0) := by
  have k1 : ∀ (m q : Nat) (v : Int), q ≤ a.length → a.length - q < m → L17_few_L0 F a m v q = some (fewP (a.drop q) v) := by
    intro m
    induction m with
    | zero => intro q v _ h; omega
    | succ m ih =>
      intro q v hq hm
      rw [L17_few_L0]
      by_cases h : q < a.length
      · simp only [d1 h, cond_true, idxg a h, Option.bind_some]
        rw [List.drop_eq_getElem_cons h, fewP]
        by_cases h6 : 600 < IntKind.i64.wrap (v + IntKind.i64.wrap (IntKind.i64.wrap (1 + (a[q].Kids.length : Int)) + (a[q].Bytes.length : Int)))
        · rw [decide_eq_true h6, if_pos h6]; rfl
        · rw [decide_eq_false h6, if_neg h6, show IntKind.i64.wrap ((q : Int) + 1) = ((q + 1 : Nat) : Int) by rw [wrap64_id (by omega) (by omega)]; omega]
          exact ih (q + 1) _ (by omega) (by omega)
      · have hqe : q = a.length := by omega
        subst hqe
        simp only [d0, cond_false, List.drop_length]; rfl
  have := k1 F 0 0 (by omega) (by omega)
  rw [L17_few]
  simpa using this

/-! What is told of a graph is not greater. -/
theorem reachGo_len {l : List api_Node} : ∀ (es out : List api_Edge) (seen : List Int) {r : List api_Edge × List Int}, reachGo l es out seen = some r → r.1.length = out.length + es.length := by
  intro es
  induction es with
  | nil => intro out seen r h; cases h; rfl
  | cons e es ih =>
    intro out seen r h
    unfold reachGo at h
    split at h
    · have := ih _ _ h; simp at this; simp; omega
    · cases h
theorem canonGo_of {l : List api_Node} : ∀ (m i : Nat) (seen : List Int) (out : List api_Node) {nodes : List api_Node}, M.canonGo l m i seen out = some nodes → (∀ n' ∈ out, ∃ n ∈ l, n'.Bytes = n.Bytes ∧ n'.Kids.length = n.Kids.length) → nodes.length ≤ out.length + m ∧ ∀ n' ∈ nodes, ∃ n ∈ l, n'.Bytes = n.Bytes ∧ n'.Kids.length = n.Kids.length := by
  intro m
  induction m with
  | zero => intro i seen out nodes h; cases h
  | succ m ih =>
    intro i seen out nodes h ho
    unfold canonGo at h
    split at h
    · rename_i k hk
      split at h
      · rename_i n hn
        split at h
        · rename_i kids seen' hr
          have hlen := reachGo_len _ _ _ hr
          simp at hlen
          obtain ⟨q1, q2⟩ := ih _ _ _ h (fun n' hn' => by
            rcases List.mem_append.1 hn' with h1 | h1
            · exact ho n' h1
            · simp at h1; subst h1; exact ⟨n, List.mem_of_getElem? hn, rfl, hlen⟩)
          exact ⟨by simp at q1; omega, q2⟩
        · cases h
      · cases h
    · cases h; exact ⟨by omega, ho⟩
theorem canonP_of (l : List api_Node) (x : List api_Edge) : (canonP l x).1.length ≤ l.length + 1 ∧ (canonP l x).2.1.length ≤ x.length ∧ ∀ n' ∈ (canonP l x).1, ∃ n ∈ l, n'.Bytes = n.Bytes ∧ n'.Kids.length = n.Kids.length := by
  unfold canonP
  cases h : reachGo l x [] [] with
  | none => simp
  | some os =>
    obtain ⟨out, seen⟩ := os
    have hl := reachGo_len _ _ _ h
    simp at hl
    simp only
    cases h2 : canonGo l (l.length + 1) 0 seen [] with
    | none => simp
    | some nodes =>
      obtain ⟨q1, q2⟩ := canonGo_of _ _ _ _ h2 (by simp)
      simp at q1
      exact ⟨by simp only; omega, by simp only; omega, q2⟩
end Go.Proofs.Ytfflojbgikfbmaa.M
