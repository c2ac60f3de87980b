/-
  Graphs as they are reached: what is computed (plain).
-/
import Derived.Test.YtfflojbgikfbmaaGrM
import Derived.Test.YtfflojbgikfbmaaGrO
namespace Go.Proofs.Ytfflojbgikfbmaa.M
open Go.Proofs.YtfflojbgikfbmaaW.Ah Go.Proofs.Ytfflojbgikfbmaa
set_option linter.unusedVariables false
set_option linter.unusedSimpArgs false

theorem idx_nat {α : Type} (xs : List α) (k : Nat) : idx xs (k : Int) = xs[k]? := by simp [idx]
theorem wrap_ok {x : Int} (h1 : -9223372036854775808 ≤ x) (h2 : x ≤ 9223372036854775807) : IntKind.i64.wrap x = x := wrap64_id h1 (by omega)
theorem wrapU_ok {x : Int} (h1 : 0 ≤ x) (h2 : x ≤ 18446744073709551615) : IntKind.u64.wrap x = x := by
  simp only [IntKind.wrap, IntKind.bits, IntKind.signed]
  simp
  omega

/-! Heads. -/
def canB (x : api_Head) : Bool := bif x.Kind == 0 then (((decide (0 ≤ x.Tag)) && (decide (x.Tag ≤ 15))) && (decide (0 < x.Count))) && (decide (x.Count ≤ 6)) else bif x.Kind == 1 then ((x.Tag == 0) && (decide (0 ≤ x.Count))) && (decide (x.Count ≤ 64)) else false
theorem can_ok (F : Nat) (x : api_Head) : heap_can F x = some (canB x) := by
  rw [heap_can, canB]
  cases x.Kind == 0 <;> cases x.Kind == 1 <;> rfl
theorem can16_ok (F : Nat) (x : api_Head) : R16_can F x = some (canB x) := by
  rw [R16_can, canB]
  cases h0 : x.Kind == 0 <;> cases h1 : x.Kind == 1
  · rfl
  · rfl
  · simp only [cond_true, cond_false, Bool.true_and]
    have : decide (1 ≤ x.Count) = decide (0 < x.Count) := by congr 1
    rw [this]
  · simp at h0 h1; omega
theorem can_iff {x : api_Head} (h : canB x = true) : (x.Kind = 0 ∨ x.Kind = 1) ∧ 0 ≤ x.Tag ∧ x.Tag ≤ 15 ∧ 0 ≤ x.Count ∧ x.Count ≤ 64 := by
  unfold canB at h
  cases h0 : x.Kind == 0 with
  | true => rw [h0] at h; simp at h h0; omega
  | false =>
    cases h1 : x.Kind == 1 with
    | true => rw [h0, h1] at h; simp at h h1; omega
    | false => rw [h0, h1] at h; simp at h
def sizeV (x : api_Head) : Int := bif canB x then 2 + (bif x.Kind == 1 then (x.Count + 7) / 8 else x.Count) else 0
theorem size_ok (F : Nat) (x : api_Head) : heap_Size F x = some (sizeV x) := by
  rw [heap_Size, can_ok]
  simp only [Option.bind_some, sizeV]
  cases h : canB x with
  | false => rfl
  | true =>
    obtain ⟨h1, h2, h3, h4, h5⟩ := can_iff h
    simp only [Bool.not_true, cond_false, cond_true, heap_body]
    cases hk : x.Kind == 1 with
    | false => simp only [cond_false, Option.bind_some]; rw [wrap_ok (by omega) (by omega)]
    | true =>
      simp only [cond_true, Option.bind_some]
      rw [wrap_ok (x := x.Count + 7) (by omega) (by omega)]
      have : shrI .i64 (x.Count + 7) 3 = (x.Count + 7) / 8 := by
        show (x.Count + 7).fdiv (2 ^ 3) = _
        rw [Int.fdiv_eq_ediv_of_nonneg _ (by decide)]
        rfl
      rw [this, wrap_ok (by omega) (by omega)]
theorem size16_ok (F : Nat) (x : api_Head) : R16_Size F x = some (sizeV x) := by
  rw [R16_Size, can16_ok]
  simp only [Option.bind_some, sizeV]
  cases h : canB x with
  | false => rfl
  | true =>
    obtain ⟨h1, h2, h3, h4, h5⟩ := can_iff h
    simp only [Bool.not_true, cond_false, cond_true]
    cases hk : x.Kind == 1 with
    | false => simp only [cond_false]; rw [wrap_ok (by omega) (by omega)]
    | true =>
      simp only [cond_true]
      have t : (x.Count + 7).tdiv 8 = (x.Count + 7) / 8 := Int.tdiv_eq_ediv_of_nonneg (by omega)
      rw [wrap_ok (x := x.Count + 7) (by omega) (by omega), t, wrap_ok (x := (x.Count + 7) / 8) (by omega) (by omega), wrap_ok (by omega) (by omega)]

def wholeB (n : api_Node) : Bool := canB n.Head && (bif n.Head.Kind == 1 then (((n.Kids.length : Int) == 0) && ((n.Bytes.length : Int) == n.Head.Count)) else (((n.Bytes.length : Int) == 0) && ((n.Kids.length : Int) == n.Head.Count)))
theorem size_zero (x : api_Head) : (sizeV x == 0) = !canB x := by
  unfold sizeV
  cases h : canB x with
  | false => rfl
  | true =>
    obtain ⟨h1, h2, h3, h4, h5⟩ := can_iff h
    cases hk : x.Kind == 1 <;> simp <;> omega
theorem whole_ok (F : Nat) (n : api_Node) : graph_whole F n = some (wholeB n) := by
  rw [graph_whole, size_ok]
  simp only [Option.bind_some, size_zero, wholeB]
  cases canB n.Head <;> cases n.Head.Kind == 1 <;> rfl
theorem node_ok (F : Nat) (n : api_Node) : R17_node F n = some (wholeB n) := by
  rw [R17_node, size16_ok]
  simp only [Option.bind_some, size_zero, wholeB]
  cases canB n.Head
  · rfl
  · cases n.Head.Kind == 1
    · rfl
    · simp only [Bool.not_true, cond_false, cond_true, Bool.true_and]
      rw [Bool.and_comm]

theorem wrap62 {a : Int} (h1 : -9223372036854775808 ≤ a) (h2 : a ≤ 9223372036854775807) : ∃ b, word_Wrap 0 a = some b ∧ (b = a ↔ (-4611686018427387904 ≤ a ∧ a < 4611686018427387904)) := by
  refine ⟨shrI .i64 (shlI .i64 a 1) 1, rfl, ?_⟩
  have e : shrI .i64 (shlI .i64 a 1) 1 = (IntKind.i64.wrap (a * 2)).fdiv 2 := rfl
  rw [e]
  have hw : IntKind.i64.wrap (a * 2) = (a * 2 + 9223372036854775808) % 18446744073709551616 - 9223372036854775808 := by
    simp only [IntKind.wrap, IntKind.bits, IntKind.signed]
    simp
    omega
  rw [hw, Int.fdiv_eq_ediv_of_nonneg _ (by omega)]
  omega

/-- Can an edge be in a graph? -/
def okB (l : List api_Node) (e : api_Edge) : Bool :=
  bif e.Is then (((e.Num == 0) && decide (0 ≤ e.Node)) && decide (e.Node < (l.length : Int))) && (match l[e.Node.toNat]? with | some n => wholeB n | none => false)
  else ((e.Node == 0) && decide (-4611686018427387904 ≤ e.Num)) && decide (e.Num < 4611686018427387904)
theorem edge_ok (F : Nat) (l : List api_Node) (e : api_Edge) : R17_edge F l e = some (okB l e) := by
  rw [R17_edge, okB]
  cases e.Is with
  | false => rfl
  | true =>
    simp only [cond_true, joinM]
    cases h : ((e.Num == 0) && decide (0 ≤ e.Node)) && decide (e.Node < (l.length : Int)) with
    | false => simp
    | true =>
      simp only [Bool.and_eq_true, decide_eq_true_eq] at h
      obtain ⟨⟨h0, h1⟩, h2⟩ := h
      obtain ⟨k, hk⟩ := Int.eq_ofNat_of_zero_le h1
      rw [hk, idx_nat, Int.toNat_natCast]
      have hlt : k < l.length := by omega
      rw [List.getElem?_eq_getElem hlt]
      simp only [cond_true, Option.bind_some, node_ok, Bool.true_and]

/-- What was reached, and the number of one. -/
def findN (k : Int) : List Int → Nat → Option Nat
  | [], _ => none
  | x :: xs, i => if x = k then some i else findN k xs (i + 1)
def stepE (seen : List Int) (e : api_Edge) : List Int × api_Edge :=
  if e.Is then (match findN e.Node seen 0 with | some i => (seen, ⟨e.Is, i, e.Num⟩) | none => (seen ++ [e.Node], ⟨e.Is, seen.length, e.Num⟩)) else (seen, e)
def reachGo (l : List api_Node) : List api_Edge → List api_Edge → List Int → Option (List api_Edge × List Int)
  | [], out, seen => some (out, seen)
  | e :: es, out, seen => if okB l e = true then reachGo l es (out ++ [(stepE seen e).2]) (stepE seen e).1 else none
def canonGo (l : List api_Node) : Nat → Nat → List Int → List api_Node → Option (List api_Node)
  | 0, _, _, _ => none
  | m + 1, i, seen, out =>
    match seen[i]? with
    | some k =>
      match l[k.toNat]? with
      | some n =>
        match reachGo l n.Kids [] seen with
        | some (kids, seen') => canonGo l m (i + 1) seen' (out ++ [⟨n.Head, n.Bytes, kids⟩])
        | none => none
      | none => none
    | none => some out
def canonP (l : List api_Node) (x : List api_Edge) : List api_Node × List api_Edge × Int :=
  match reachGo l x [] [] with
  | some (out, seen) =>
    match canonGo l (l.length + 1) 0 seen [] with
    | some nodes => (nodes, out, 0)
    | none => ([], [], 19)
  | none => ([], [], 19)

/-- What was reached are places, each once. -/
structure Seen (l : List api_Node) (seen : List Int) : Prop where
  nd : seen.Nodup
  lt : ∀ k ∈ seen, 0 ≤ k ∧ k < (l.length : Int)
theorem pigeon : ∀ (n : Nat) (s : List Int), s.Nodup → (∀ k ∈ s, 0 ≤ k ∧ k < (n : Int)) → s.length ≤ n := by
  intro n
  induction n with
  | zero => intro s _ h; cases s with
    | nil => simp
    | cons x xs => have := h x (by simp); omega
  | succ n ih =>
    intro s hn h
    by_cases hm : (n : Int) ∈ s
    · have h1 := ih (s.erase (n : Int)) (hn.erase _) (fun k hk => by
        have hk1 := h k (List.mem_of_mem_erase hk)
        have hk2 : k ≠ (n : Int) := fun e => by subst e; exact (List.Nodup.mem_erase_iff hn).1 hk |>.1 rfl
        omega)
      have h2 := List.length_erase_of_mem hm
      have h3 := List.length_pos_of_mem hm
      omega
    · have := ih s hn (fun k hk => by
        have hk1 := h k hk
        have hk2 : k ≠ (n : Int) := fun e => hm (e ▸ hk)
        omega)
      omega
theorem Seen.len {l : List api_Node} {seen : List Int} (s : Seen l seen) : seen.length ≤ l.length := pigeon _ _ s.nd s.lt
theorem findN_none {k : Int} : ∀ (s : List Int) (i : Nat), findN k s i = none → k ∉ s := by
  intro s
  induction s with
  | nil => intro i _; simp
  | cons x xs ih =>
    intro i h
    unfold findN at h
    split at h
    · cases h
    · rename_i hx
      simp only [List.mem_cons, not_or]
      exact ⟨fun e => hx e.symm, ih _ h⟩
theorem findN_some {k : Int} : ∀ (s : List Int) (i j : Nat), findN k s i = some j → i ≤ j ∧ j < i + s.length ∧ s[j - i]? = some k := by
  intro s
  induction s with
  | nil => intro i j h; cases h
  | cons x xs ih =>
    intro i j h
    unfold findN at h
    split at h
    · rename_i hx; cases h; exact ⟨Nat.le_refl _, by simp, by simp [hx]⟩
    · obtain ⟨h1, h2, h3⟩ := ih _ _ h
      refine ⟨by omega, by simp; omega, ?_⟩
      obtain ⟨d, hd⟩ : ∃ d, j - i = d + 1 := ⟨j - i - 1, by omega⟩
      rw [hd, List.getElem?_cons_succ, show d = j - (i + 1) by omega, h3]
theorem Seen.step {l : List api_Node} {seen : List Int} (s : Seen l seen) {e : api_Edge} (h : okB l e = true) : Seen l (stepE seen e).1 := by
  unfold stepE
  cases he : e.Is with
  | false => exact s
  | true =>
    simp only [if_true]
    unfold okB at h
    rw [he] at h
    simp only [cond_true, Bool.and_eq_true, decide_eq_true_eq] at h
    cases hf : findN e.Node seen 0 with
    | some i => exact s
    | none =>
      refine ⟨?_, fun k hk => ?_⟩
      · rw [List.nodup_append]
        exact ⟨s.nd, by simp, fun a ha b hb => by simp at hb; subst hb; exact fun e => findN_none _ _ hf (e ▸ ha)⟩
      · rcases List.mem_append.1 hk with hk | hk
        · exact s.lt k hk
        · simp at hk; subst hk; omega
theorem Seen.reach {l : List api_Node} : ∀ (es out : List api_Edge) (seen : List Int) {r : List api_Edge × List Int}, Seen l seen → reachGo l es out seen = some r → Seen l r.2 := by
  intro es
  induction es with
  | nil => intro out seen r s h; cases h; exact s
  | cons e es ih =>
    intro out seen r s h
    unfold reachGo at h
    split at h
    · rename_i hok; exact ih _ _ (s.step hok) h
    · cases h
theorem reach_len {l : List api_Node} : ∀ (es out : List api_Edge) (seen : List Int) {r : List api_Edge × List Int}, reachGo l es out seen = some r → seen.length ≤ r.2.length := by
  intro es
  induction es with
  | nil => intro out seen r h; cases h; exact Nat.le_refl _
  | cons e es ih =>
    intro out seen r h
    unfold reachGo at h
    split at h
    · have := ih _ _ h
      have h2 : seen.length ≤ (stepE seen e).1.length := by
        unfold stepE
        split
        · split
          · exact Nat.le_refl _
          · simp
        · exact Nat.le_refl _
      omega
    · cases h
end Go.Proofs.Ytfflojbgikfbmaa.M
