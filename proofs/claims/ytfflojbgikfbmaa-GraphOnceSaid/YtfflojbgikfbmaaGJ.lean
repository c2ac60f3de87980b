/-
  Graphs: one form (plain).
-/
import Derived.Test.YtfflojbgikfbmaaGH
namespace Go.Proofs.Ytfflojbgikfbmaa.M
open Go.Proofs.YtfflojbgikfbmaaW.Ah Go.Proofs.Ytfflojbgikfbmaa
set_option linter.unusedVariables false
set_option linter.unusedSimpArgs false

/-- An edge, its place another. -/
def mapE (f : Int → Int) (e : api_Edge) : api_Edge := if e.Is then ⟨e.Is, f e.Node, e.Num⟩ else e
def mapN (f : Int → Int) (n : api_Node) : api_Node := ⟨n.Head, n.Bytes, n.Kids.map (mapE f)⟩
theorem whole_map (f : Int → Int) (n : api_Node) : wholeB (mapN f n) = wholeB n := by
  unfold wholeB mapN
  simp

/-- The places of S stand elsewhere. -/
structure Sim (l b : List api_Node) (f : Int → Int) (S : List Int) : Prop where
  at_ : ∀ k ∈ S, 0 ≤ f k ∧ ∃ n, l[k.toNat]? = some n ∧ b[(f k).toNat]? = some (mapN f n)
  inj : ∀ k ∈ S, ∀ k' ∈ S, f k = f k' → k = k'

theorem findN_map {f : Int → Int} {S : List Int} (inj : ∀ k ∈ S, ∀ k' ∈ S, f k = f k' → k = k') {k : Int} (hk : k ∈ S) : ∀ (s : List Int) (i : Nat), (∀ x ∈ s, x ∈ S) → findN (f k) (s.map f) i = findN k s i
  | [], _, _ => rfl
  | x :: s, i, h => by
    rw [List.map_cons, findN, findN, findN_map inj hk s (i + 1) (fun y hy => h y (by simp [hy]))]
    by_cases e : x = k
    · rw [if_pos e, if_pos (by rw [e])]
    · rw [if_neg e, if_neg (fun e2 => e (inj x (h x (by simp)) k hk e2))]

theorem ok_map {l b : List api_Node} {f : Int → Int} {S : List Int} (sim : Sim l b f S) {e : api_Edge} (h : okB l e = true) (he : e.Is = true → e.Node ∈ S) : okB b (mapE f e) = true := by
  unfold mapE
  cases hi : e.Is with
  | false =>
    simp only [Bool.false_eq_true, if_false]
    unfold okB at h ⊢
    rw [hi] at h ⊢
    exact h
  | true =>
    simp only [if_true]
    unfold okB at h ⊢
    rw [hi] at h
    simp only [cond_true, Bool.and_eq_true, decide_eq_true_eq, beq_iff_eq] at h ⊢
    obtain ⟨q0, n, q1, q2⟩ := sim.at_ _ (he hi)
    have hlt := (List.getElem?_eq_some_iff.1 q2).1
    refine ⟨⟨⟨h.1.1.1, q0⟩, by omega⟩, ?_⟩
    rw [q2]
    rw [q1] at h
    simp only at h ⊢
    rw [whole_map]; exact h.2

theorem step_sub (seen : List Int) (e : api_Edge) : ∀ k ∈ seen, k ∈ (stepE seen e).1 := by
  intro k hk
  unfold stepE
  split
  · split
    · exact hk
    · exact List.mem_append_left _ hk
  · exact hk
theorem step_in (seen : List Int) (e : api_Edge) (h : e.Is = true) : e.Node ∈ (stepE seen e).1 := by
  unfold stepE
  rw [if_pos h]
  cases hf : findN e.Node seen 0 with
  | none => simp
  | some i =>
    obtain ⟨_, _, h3⟩ := findN_some _ _ _ hf
    exact List.mem_of_getElem? h3
theorem reach_sub {l : List api_Node} : ∀ (es out : List api_Edge) (seen : List Int) {r : List api_Edge × List Int}, reachGo l es out seen = some r → ∀ k ∈ seen, k ∈ r.2 := by
  intro es
  induction es with
  | nil => intro out seen r h k hk; cases h; exact hk
  | cons e es ih =>
    intro out seen r h k hk
    unfold reachGo at h
    split at h
    · exact ih _ _ h k (step_sub _ _ k hk)
    · cases h
theorem step_map {f : Int → Int} {S : List Int} (inj : ∀ k ∈ S, ∀ k' ∈ S, f k = f k' → k = k') (seen : List Int) (e : api_Edge) (hs : ∀ k ∈ (stepE seen e).1, k ∈ S) : stepE (seen.map f) (mapE f e) = ((stepE seen e).1.map f, (stepE seen e).2) := by
  cases hi : e.Is with
  | false =>
    have e1 : mapE f e = e := by unfold mapE; rw [hi]; rfl
    rw [e1]
    unfold stepE
    rw [hi]; rfl
  | true =>
    have hk := hs _ (step_in seen e hi)
    have e1 : mapE f e = ⟨true, f e.Node, e.Num⟩ := by unfold mapE; rw [if_pos hi, hi]
    have hfm := findN_map inj hk seen 0 (fun x hx => hs x (step_sub _ _ x hx))
    rw [e1]
    unfold stepE
    simp only [if_true, hi, hfm]
    cases findN e.Node seen 0 with
    | none => simp
    | some i => rfl
theorem reach_map {l b : List api_Node} {f : Int → Int} {S : List Int} (sim : Sim l b f S) : ∀ (es out : List api_Edge) (seen : List Int) {r : List api_Edge × List Int}, reachGo l es out seen = some r → (∀ k ∈ r.2, k ∈ S) → reachGo b (es.map (mapE f)) out (seen.map f) = some (r.1, r.2.map f) := by
  intro es
  induction es with
  | nil => intro out seen r h _; cases h; rfl
  | cons e es ih =>
    intro out seen r h hs
    unfold reachGo at h
    split at h
    · rename_i hok
      have hsub : ∀ k ∈ (stepE seen e).1, k ∈ S := fun k hk => hs k (reach_sub _ _ _ h k hk)
      rw [List.map_cons, reachGo, if_pos (ok_map sim hok (fun hi => hsub _ (step_in seen e hi))), step_map sim.inj seen e hsub]
      exact ih _ _ h hs
    · cases h

/-- What is reached at last, as canonGo goes. -/
def lastGo (l : List api_Node) : Nat → Nat → List Int → List Int
  | 0, _, seen => seen
  | m + 1, i, seen =>
    match seen[i]? with
    | some k =>
      match l[k.toNat]? with
      | some n =>
        match reachGo l n.Kids [] seen with
        | some (_, seen') => lastGo l m (i + 1) seen'
        | none => seen
      | none => seen
    | none => seen
theorem lastGo_sub (l : List api_Node) : ∀ (m i : Nat) (seen : List Int), ∀ k ∈ seen, k ∈ lastGo l m i seen := by
  intro m
  induction m with
  | zero => intro i seen k hk; exact hk
  | succ m ih =>
    intro i seen k hk
    unfold lastGo
    split
    · split
      · split
        · rename_i hr; exact ih _ _ k (reach_sub _ _ _ hr k hk)
        · exact hk
      · exact hk
    · exact hk

theorem canonGo_ge {l : List api_Node} : ∀ (m i : Nat) (seen : List Int) (out : List api_Node) {nodes : List api_Node}, canonGo l m i seen out = some nodes → out.length ≤ nodes.length := by
  intro m
  induction m with
  | zero => intro i seen out nodes h; cases h
  | succ m ih =>
    intro i seen out nodes h
    unfold canonGo at h
    split at h
    · split at h
      · split at h
        · have := ih _ _ _ h; simp at this; omega
        · cases h
      · cases h
    · cases h; exact Nat.le_refl _
/-- The same from elsewhere, with steps enough. -/
theorem canonGo_map {l b : List api_Node} {f : Int → Int} {S : List Int} (sim : Sim l b f S) : ∀ (m i : Nat) (seen : List Int) (out : List api_Node) {nodes : List api_Node}, canonGo l m i seen out = some nodes → (∀ k ∈ lastGo l m i seen, k ∈ S) → ∀ m', nodes.length < out.length + m' → canonGo b m' i (seen.map f) out = some nodes := by
  intro m
  induction m with
  | zero => intro i seen out nodes h; cases h
  | succ m ih =>
    intro i seen out nodes h hs m' hm'
    unfold canonGo at h
    split at h
    · rename_i k hk
      split at h
      · rename_i n hn
        split at h
        · rename_i kids seen' hr
          unfold lastGo at hs
          rw [hk] at hs
          simp only [hn, hr] at hs
          have hkS : k ∈ S := hs k (lastGo_sub _ _ _ _ k (reach_sub _ _ _ hr k (List.mem_of_getElem? hk)))
          obtain ⟨q0, n', q1, q2⟩ := sim.at_ k hkS
          rw [hn] at q1; cases q1
          have hr2 := reach_map sim n.Kids [] seen hr (fun k hk => hs k (lastGo_sub _ _ _ _ k hk))
          have hlen := canonGo_ge _ _ _ _ h
          simp at hlen
          cases m' with
          | zero => omega
          | succ m' =>
            rw [canonGo, List.getElem?_map, hk]
            simp only [Option.map_some, q2, mapN, hr2]
            exact ih _ _ _ h hs m' (by simp; omega)
        · cases h
      · cases h
    · rename_i hk
      cases h
      cases m' with
      | zero => omega
      | succ m' => rw [canonGo, List.getElem?_map, hk]; rfl

/-! Three others that have one form. -/
def finals (l : List api_Node) (x : List api_Edge) : List Int := match reachGo l x [] [] with | some (_, seen) => lastGo l (l.length + 1) 0 seen | none => []
theorem canonP_map {l b : List api_Node} {f : Int → Int} {x : List api_Edge} {nodes : List api_Node} {out : List api_Edge} (h : canonP l x = (nodes, out, 0)) (sim : Sim l b f (finals l x)) (hb : nodes.length ≤ b.length) : canonP b (x.map (mapE f)) = (nodes, out, 0) := by
  unfold canonP at h
  unfold finals at sim
  cases hr : reachGo l x [] [] with
  | none => rw [hr] at h; simp at h
  | some os =>
    obtain ⟨out', seen⟩ := os
    rw [hr] at h sim
    simp only at h sim
    cases hc : canonGo l (l.length + 1) 0 seen [] with
    | none => rw [hc] at h; simp at h
    | some nodes' =>
      rw [hc] at h
      simp only [Prod.mk.injEq] at h
      obtain ⟨rfl, rfl, _⟩ := h
      have h1 := reach_map sim x [] [] hr (fun k hk => lastGo_sub _ _ _ _ k hk)
      have h2 := canonGo_map sim (l.length + 1) 0 seen [] hc (fun k hk => hk) (b.length + 1) (by simp; omega)
      unfold canonP
      rw [List.map_nil] at h1
      rw [h1]
      simp only [h2]

theorem mapE_id (e : api_Edge) : mapE (fun k => k) e = e := by unfold mapE; split <;> rfl
theorem map_id (x : List api_Edge) : x.map (mapE fun k => k) = x := by rw [List.map_congr_left (fun e _ => mapE_id e), List.map_id']
theorem mapN_id (n : api_Node) : mapN (fun k => k) n = n := by unfold mapN; rw [map_id]

/-- Nodes behind all play no part. -/
theorem lastGo_seen {l : List api_Node} : ∀ (m i : Nat) (seen : List Int), Seen l seen → Seen l (lastGo l m i seen) := by
  intro m
  induction m with
  | zero => intro i seen s; exact s
  | succ m ih =>
    intro i seen s
    unfold lastGo
    split
    · split
      · split
        · rename_i hr; exact ih _ _ (Seen.reach _ _ _ s hr)
        · exact s
      · exact s
    · exact s
theorem finals_seen (l : List api_Node) (x : List api_Edge) : Seen l (finals l x) := by
  unfold finals
  cases hr : reachGo l x [] [] with
  | none => exact ⟨List.nodup_nil, fun k hk => by simp at hk⟩
  | some os => exact lastGo_seen _ _ _ (Seen.reach _ _ _ ⟨List.nodup_nil, fun k hk => by simp at hk⟩ hr)
theorem finals_at {l : List api_Node} {x : List api_Edge} {k : Int} (hk : k ∈ finals l x) : ∃ j : Nat, k = j ∧ ∃ n, l[j]? = some n := by
  obtain ⟨h1, h2⟩ := (finals_seen l x).lt k hk
  obtain ⟨j, rfl⟩ := Int.eq_ofNat_of_zero_le h1
  exact ⟨j, rfl, l[j]'(by omega), List.getElem?_eq_getElem (by omega)⟩
theorem canonP_append {l more : List api_Node} {x : List api_Edge} {nodes : List api_Node} {out : List api_Edge} (h : canonP l x = (nodes, out, 0)) (hn : nodes.length ≤ l.length) : canonP (l ++ more) x = (nodes, out, 0) := by
  have := canonP_map (b := l ++ more) (f := fun k => k) h ⟨fun k hk => by
    obtain ⟨j, rfl, n, hj⟩ := finals_at hk
    refine ⟨by omega, n, by simpa using hj, ?_⟩
    rw [mapN_id, Int.toNat_natCast, List.getElem?_append_left (List.getElem?_eq_some_iff.1 hj).1, hj], fun k _ k' _ e => e⟩ (by rw [List.length_append]; omega)
  rwa [map_id] at this

/-! A graph as it is reached is told of itself. -/
def fS (S : List Int) (k : Int) : Int := (((findN k S 0).getD 0 : Nat) : Int)
theorem findN_prefix {k : Int} : ∀ (s t : List Int) (i j : Nat), findN k s i = some j → findN k (s ++ t) i = some j
  | [], _, _, _, h => by cases h
  | x :: s, t, i, j, h => by
    rw [List.cons_append, findN]
    rw [findN] at h
    split at h
    · rw [if_pos (by assumption)]; exact h
    · rw [if_neg (by assumption)]; exact findN_prefix s t _ _ h
theorem findN_snoc {k : Int} : ∀ (s t : List Int) (i : Nat), findN k s i = none → findN k (s ++ k :: t) i = some (i + s.length)
  | [], _, i, _ => by simp [findN]
  | x :: s, t, i, h => by
    rw [List.cons_append, findN]
    rw [findN] at h
    split at h
    · cases h
    · rw [if_neg (by assumption), findN_snoc s t _ h, List.length_cons]; congr 1; omega
theorem step_prefix (seen : List Int) (e : api_Edge) : seen <+: (stepE seen e).1 := by
  unfold stepE
  split
  · split
    · exact List.prefix_refl _
    · exact List.prefix_append _ _
  · exact List.prefix_refl _
theorem step_fS {S : List Int} (seen : List Int) (e : api_Edge) (hs : (stepE seen e).1 <+: S) : (stepE seen e).2 = mapE (fS S) e := by
  unfold mapE
  cases hi : e.Is with
  | false => unfold stepE; rw [hi]; rfl
  | true =>
    unfold stepE at hs ⊢
    rw [if_pos hi] at hs ⊢
    simp only [if_true]
    cases hf : findN e.Node seen 0 with
    | some i =>
      rw [hf] at hs
      obtain ⟨t, rfl⟩ := hs
      unfold fS
      rw [findN_prefix _ _ _ _ hf]
      simp [hi]
    | none =>
      rw [hf] at hs
      obtain ⟨t, rfl⟩ := hs
      unfold fS
      simp only [List.append_assoc, List.singleton_append]
      rw [findN_snoc _ _ _ hf]
      simp [hi]
theorem reach_prefix {l : List api_Node} : ∀ (es out : List api_Edge) (seen : List Int) {r : List api_Edge × List Int}, reachGo l es out seen = some r → seen <+: r.2 := by
  intro es
  induction es with
  | nil => intro out seen r h; cases h; exact List.prefix_refl _
  | cons e es ih =>
    intro out seen r h
    unfold reachGo at h
    split at h
    · exact (step_prefix seen e).trans (ih _ _ h)
    · cases h
theorem reach_fS {l : List api_Node} {S : List Int} : ∀ (es out : List api_Edge) (seen : List Int) {r : List api_Edge × List Int}, reachGo l es out seen = some r → r.2 <+: S → r.1 = out ++ es.map (mapE (fS S)) := by
  intro es
  induction es with
  | nil => intro out seen r h _; cases h; simp
  | cons e es ih =>
    intro out seen r h hs
    unfold reachGo at h
    split at h
    · rw [ih _ _ h hs, List.map_cons, step_fS (S := S) seen e ((reach_prefix _ _ _ h).trans hs)]
      simp
    · cases h
theorem lastGo_prefix (l : List api_Node) : ∀ (m i : Nat) (seen : List Int), seen <+: lastGo l m i seen := by
  intro m
  induction m with
  | zero => intro i seen; exact List.prefix_refl _
  | succ m ih =>
    intro i seen
    unfold lastGo
    split
    · split
      · split
        · rename_i hr; exact (reach_prefix _ _ _ hr).trans (ih _ _)
        · exact List.prefix_refl _
      · exact List.prefix_refl _
    · exact List.prefix_refl _
def nodeAt (l : List api_Node) (k : Int) : api_Node := (l[k.toNat]?).getD ⟨⟨0, 0, 0⟩, [], []⟩
theorem prefix_get {s S : List Int} (h : s <+: S) {i : Nat} {k : Int} (hk : s[i]? = some k) : S[i]? = some k := by
  obtain ⟨t, rfl⟩ := h
  rw [List.getElem?_append_left (List.getElem?_eq_some_iff.1 hk).1, hk]
theorem canonGo_fS {l : List api_Node} {S : List Int} : ∀ (m i : Nat) (seen : List Int) (out : List api_Node) {nodes : List api_Node}, canonGo l m i seen out = some nodes → lastGo l m i seen = S → i ≤ seen.length → nodes = out ++ (S.drop i).map (fun k => mapN (fS S) (nodeAt l k)) := by
  intro m
  induction m with
  | zero => intro i seen out nodes h; cases h
  | succ m ih =>
    intro i seen out nodes h hS hi
    unfold canonGo at h
    split at h
    · rename_i k hk
      split at h
      · rename_i n hn
        split at h
        · rename_i kids seen' hr
          unfold lastGo at hS
          rw [hk] at hS
          simp only [hn, hr] at hS
          have hp : seen' <+: S := hS ▸ lastGo_prefix l m (i + 1) seen'
          have hkids := reach_fS (S := S) n.Kids [] seen hr hp
          simp at hkids
          have hlen := reach_len _ _ _ hr
          have hil : i < seen.length := (List.getElem?_eq_some_iff.1 hk).1
          simp only at hlen
          have hSi : S[i]? = some k := prefix_get ((reach_prefix _ _ _ hr).trans hp) hk
          have hiS : i < S.length := (List.getElem?_eq_some_iff.1 hSi).1
          have hSe : S[i] = k := by rw [List.getElem?_eq_getElem hiS] at hSi; exact Option.some.inj hSi
          rw [ih _ _ _ h hS (by omega), List.drop_eq_getElem_cons hiS, hSe, List.map_cons, List.append_assoc]
          have : nodeAt l k = n := by unfold nodeAt; rw [hn]; rfl
          rw [this]
          unfold mapN
          rw [hkids]; rfl
        · cases h
      · cases h
    · rename_i hk
      cases h
      unfold lastGo at hS
      rw [hk] at hS
      simp only at hS
      subst hS
      have : seen.length ≤ i := List.getElem?_eq_none_iff.1 hk
      rw [List.drop_eq_nil_of_le this]; simp
theorem canonP_parts {l : List api_Node} {x : List api_Edge} {nodes : List api_Node} {out : List api_Edge} (h : canonP l x = (nodes, out, 0)) : nodes = (finals l x).map (fun k => mapN (fS (finals l x)) (nodeAt l k)) ∧ out = x.map (mapE (fS (finals l x))) := by
  unfold canonP at h
  unfold finals
  cases hr : reachGo l x [] [] with
  | none => rw [hr] at h; simp at h
  | some os =>
    obtain ⟨out', seen⟩ := os
    rw [hr] at h
    simp only at h ⊢
    cases hc : canonGo l (l.length + 1) 0 seen [] with
    | none => rw [hc] at h; simp at h
    | some nodes' =>
      rw [hc] at h
      simp only [Prod.mk.injEq] at h
      obtain ⟨rfl, rfl, _⟩ := h
      have h1 := canonGo_fS (S := lastGo l (l.length + 1) 0 seen) _ _ _ _ hc rfl (Nat.zero_le _)
      have h2 := reach_fS (S := lastGo l (l.length + 1) 0 seen) x [] [] hr (lastGo_prefix _ _ _ _)
      simp at h1 h2
      exact ⟨h1, h2⟩
theorem findN_self {S : List Int} {k : Int} (hk : k ∈ S) : ∃ j, findN k S 0 = some j ∧ S[j]? = some k := by
  cases h : findN k S 0 with
  | none => exact absurd hk (findN_none _ _ h)
  | some j => exact ⟨j, rfl, by simpa using (findN_some _ _ _ h).2.2⟩
theorem canonP_once {l : List api_Node} {x : List api_Edge} {nodes : List api_Node} {out : List api_Edge} (h : canonP l x = (nodes, out, 0)) : canonP nodes out = (nodes, out, 0) := by
  obtain ⟨h1, h2⟩ := canonP_parts h
  have hm := canonP_map (b := nodes) (f := fS (finals l x)) h ⟨fun k hk => ?_, fun k hk k' hk' e => ?_⟩ (Nat.le_refl _)
  · rw [← h2] at hm; exact hm
  · obtain ⟨j, hj, hSj⟩ := findN_self hk
    obtain ⟨q, rfl, n, hn⟩ := finals_at hk
    unfold fS
    rw [hj]
    refine ⟨by simp, n, by simpa using hn, ?_⟩
    simp only [Option.getD_some, Int.toNat_natCast]
    conv => lhs; rw [h1]
    rw [List.getElem?_map, hSj]
    simp only [Option.map_some, nodeAt, Int.toNat_natCast, hn, Option.getD_some]
    rfl
  · obtain ⟨j, hj, hSj⟩ := findN_self hk
    obtain ⟨j', hj', hSj'⟩ := findN_self hk'
    unfold fS at e
    rw [hj, hj'] at e
    have e2 : j = j' := by simp only [Option.getD_some] at e; omega
    subst e2
    rw [hSj] at hSj'
    exact Option.some.inj hSj'
theorem canonP_len {l : List api_Node} {x : List api_Edge} {nodes : List api_Node} {out : List api_Edge} (h : canonP l x = (nodes, out, 0)) : nodes.length ≤ l.length := by
  rw [(canonP_parts h).1, List.length_map]
  exact (finals_seen l x).len

/-! Nodes in another order. -/
def turnF (n k : Nat) (y : Int) : Int := (IntKind.i64.wrap (y + (k : Int))).tmod (n : Int)
theorem turnF_at {n k j : Nat} (hn : n ≤ 600) (hk : k < n) (hj : j < n) : turnF n k j = (((j + k) % n : Nat) : Int) := by
  unfold turnF
  rw [wrap64_id (by omega) (by omega), Int.tmod_eq_emod_of_nonneg (by omega), show (j : Int) + (k : Int) = ((j + k : Nat) : Int) by omega]
  exact (Int.natCast_emod (j + k) n).symm
theorem mod_inj {n k j j' : Nat} (hk : k < n) (hj : j < n) (hj' : j' < n) (h : (j + k) % n = (j' + k) % n) : j = j' := by
  have e1 : (j + k) % n = if j + k < n then j + k else j + k - n := by
    split
    · exact Nat.mod_eq_of_lt (by assumption)
    · rw [Nat.mod_eq_sub_mod (by omega), Nat.mod_eq_of_lt (by omega)]
  have e2 : (j' + k) % n = if j' + k < n then j' + k else j' + k - n := by
    split
    · exact Nat.mod_eq_of_lt (by assumption)
    · rw [Nat.mod_eq_sub_mod (by omega), Nat.mod_eq_of_lt (by omega)]
  rw [e1, e2] at h
  split at h <;> split at h <;> omega
theorem canonP_turn {l b : List api_Node} {x : List api_Edge} {nodes : List api_Node} {out : List api_Edge} {k : Nat} (h : canonP l x = (nodes, out, 0)) (hn : l.length ≤ 600) (hk : k < l.length) (hb : b.length = l.length)
    (hat : ∀ (i : Nat) n, l[i]? = some n → b[(i + k) % l.length]? = some (mapN (turnF l.length k) n)) : canonP b (x.map (mapE (turnF l.length k))) = (nodes, out, 0) := by
  refine canonP_map (b := b) (f := turnF l.length k) h ⟨fun q hq => ?_, fun q hq q' hq' e => ?_⟩ (by rw [hb]; exact canonP_len h)
  · obtain ⟨j, rfl, n, hj⟩ := finals_at hq
    have hlt := (List.getElem?_eq_some_iff.1 hj).1
    rw [turnF_at hn hk hlt]
    exact ⟨Int.natCast_nonneg _, n, by simpa using hj, by rw [Int.toNat_natCast]; exact hat j n hj⟩
  · obtain ⟨j, rfl, n, hj⟩ := finals_at hq
    obtain ⟨j', rfl, n', hj'⟩ := finals_at hq'
    have hlt := (List.getElem?_eq_some_iff.1 hj).1
    have hlt' := (List.getElem?_eq_some_iff.1 hj').1
    rw [turnF_at hn hk hlt, turnF_at hn hk hlt'] at e
    rw [mod_inj hk hlt hlt' (Int.natCast_inj.1 e)]
theorem canonP_ok {l : List api_Node} {x : List api_Edge} (h : (canonP l x).2.2 ≠ 0) : canonP l x = ([], [], 19) := by
  unfold canonP at h ⊢
  cases hr : reachGo l x [] [] with
  | none => rfl
  | some os =>
    obtain ⟨out', seen⟩ := os
    rw [hr] at h
    simp only at h ⊢
    cases hc : canonGo l (l.length + 1) 0 seen [] with
    | none => rfl
    | some nodes' => rw [hc] at h; simp at h
end Go.Proofs.Ytfflojbgikfbmaa.M
