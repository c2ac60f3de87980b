/-
  The document's reach comes to what is computed.
-/
import Derived.Test.YtfflojbgikfbmaaGE
namespace Go.Proofs.Ytfflojbgikfbmaa.Gra
open Go.Proofs.YtfflojbgikfbmaaW.Ah
open M (api_Node api_Edge c3 c31 c37 Seen okB stepE reachGo findN)
set_option maxRecDepth 4000
set_option linter.unusedVariables false
set_option linter.unusedSimpArgs false
attribute [local simp] T.t2 T.t3 T.t4 T.t5 T.t22 T.t23 T.t26 T.t31 T.t34 T.t35 T.t37 T.t119 T.t124 T.t203 T.t138 T.t198 T.t200 Op.maxDepth List.range List.range.loop
attribute [-simp] appendAV cellsOf cellOk partOk
attribute [local simp] cellsOf_sc cellOk_sc partOk_sc cellsOf_own cellOk_own partOk_own cellsOf_osl cellOk_osl partOk_osl cellsOf_sh cellOk_sh partOk_sh cellsOf_ssl cellOk_ssl partOk_ssl cellsOf_esl cellOk_esl partOk_esl cellsOf_fn cellOk_fn partOk_fn cellsOf_omap cellOk_omap partOk_omap cellsOf_agg partOk_agg cellsOf_slv cellOk_slv partOk_slv

theorem placeR (s : List Int) (hs : s.length ≤ 60000) (k : Int) : M.R17_place 70000 s k = some (match findN k s 0 with | some i => (i : Int) | none => -1) := by
  have key : ∀ m q : Nat, q ≤ s.length → s.length - q < m → M.R17_place_L0 70000 s k m (q : Int) = some (match findN k (s.drop q) q with | some i => (i : Int) | none => -1) := by
    intro m
    induction m with
    | zero => intro q _ h; omega
    | succ m ih =>
      intro q hq hm
      rw [M.R17_place_L0]
      by_cases h : q < s.length
      · have d1 : decide ((q : Int) < (s.length : Int)) = true := by simp; omega
        have hi : idx s (q : Int) = some s[q] := by rw [M.idx_nat, List.getElem?_eq_getElem h]
        have w : IntKind.i64.wrap ((q : Int) + 1) = ((q + 1 : Nat) : Int) := by rw [wrap64_id (by omega) (by omega)]; omega
        simp only [d1, cond_true, hi, Option.bind_some, w]
        rw [List.drop_eq_getElem_cons h, findN]
        by_cases hk : s[q] = k
        · have e : (s[q] == k) = true := by simp [hk]
          rw [e, if_pos hk]; rfl
        · have e : (s[q] == k) = false := by simp [hk]
          rw [e, if_neg hk]
          exact ih (q + 1) (by omega) (by omega)
      · have d1 : decide ((q : Int) < (s.length : Int)) = false := by simp; omega
        simp only [d1, cond_false]
        rw [List.drop_eq_nil_of_le (by omega)]; rfl
  exact key 70000 0 (by omega) (by omega)

noncomputable def body87 : Code := Try.f87.body.getD .skip
/-- What was reached goes along, owned. -/
structure Sl (H : Mem) (n : Nat) (o : Option Nat) (H' : Mem) (n' : Nat) (o' : Option Nat) (seen' : List Int) : Prop where
  own : YtfflojbgikfbmaaW.Ah.Own H' 3 c3 o' seen'
  le : n ≤ n'
  of : ∀ i, o' = some i → (o = some i ∨ n ≤ i) ∧ i < n'
  keep : ∀ j, j < n → o ≠ some j → H' j = H j
def ReachZ (l : List api_Node) (es : List api_Edge) (H : Mem) (n : Nat) (o : Option Nat) (seen : List Int) (r : AV) (H' : Mem) (n' : Nat) : Prop :=
  match reachGo l es [] seen with
  | some (out, seen') => ∃ o', r = .tup [.ssl (encs c31 out) out.length false, slv o' seen'.length, B true] ∧ Sl H n o H' n' o' seen'
  | none => r = .tup [.sc (.slice none 0 0), .sc (.slice none 0 0), B false] ∧ n ≤ n' ∧ ∀ j, j < n → o ≠ some j → H' j = H j

/-- One more edge is laid behind the others. -/
theorem layR {H Y : Mem} {n n2 : Nat} {o oo ob : Option Nat} {sq : List Int} (ws : Sl H n o Y n2 oo sq) (hob : ∀ i, ob = some i → n ≤ i ∧ i < n2 ∧ oo ≠ some i) {H9 : Mem} {n9 j9 : Nat} (le9 : n2 ≤ n9) (f9 : ob = some j9 ∨ n2 ≤ j9) (l9 : j9 < n9) (k9 : ∀ j, j < n2 → ob ≠ some j → H9 j = Y j) :
    Sl H n o H9 n9 oo sq ∧ n ≤ j9 ∧ j9 < n9 ∧ oo ≠ some j9 := by
  have hn := ws.le
  refine ⟨⟨ws.own.mono fun i hi => k9 i (ws.of i hi).2 (fun e => (hob i e).2.2 hi), by omega, fun i hi => ⟨(ws.of i hi).1, by have := (ws.of i hi).2; omega⟩, fun j h1 h2 => by rw [k9 j (by omega) (fun e => by have := (hob j e).1; omega), ws.keep j h1 h2]⟩, ?_⟩
  rcases f9 with f | f
  · have := hob j9 f; exact ⟨this.1, l9, this.2.2⟩
  · exact ⟨by omega, l9, fun e => by have := (ws.of j9 e).2; omega⟩

theorem reachQ {H : Mem} {n : Nat} {o : Option Nat} {seen : List Int} (ho : YtfflojbgikfbmaaW.Ah.Own H 3 c3 o seen) (hlo : ∀ i, o = some i → i < n) (l : List api_Node) (es : List api_Edge) (hl : l.length ≤ 50000) (he : es.length ≤ 60000) (sn : Seen l seen) :
    RunQ Try.prog T.T 87 [.ssl (encs c37 l) l.length false, .ssl (encs c31 es) es.length false, slv o seen.length] H n (fun r H' n' => ReachZ l es H n o seen r H' n') := by
  refine RunQ.partsZ (c := body87) Try.func87 (by rfl) rfl rfl rfl rfl fun C hr => ?_
  refine Stk.cut (l' := (seqs body87).drop 4) [_, _, _, _] rfl fun J hJ => ?_
  refine evS_sound (f := 9) ?_
  simp [codes]
  iterate 4 (try (refine evS_sound (f := 8) ?_; simp))
  refine Stk.loop 4 (fun μ t H2 n2 => ∃ (q : Nat) (out : List api_Edge) (sq : List Int) (oo ob : Option Nat), q ≤ es.length ∧ μ = es.length - q ∧ reachGo l es [] seen = reachGo l (es.drop q) out sq ∧ t 0 = .ssl (encs c37 l) l.length false ∧ t 1 = .ssl (encs c31 es) es.length false ∧ t 2 = slv oo sq.length ∧ t 9 = slv ob out.length ∧ YtfflojbgikfbmaaW.Ah.Own H2 31 c31 ob out ∧ (∀ i, ob = some i → n ≤ i ∧ i < n2 ∧ oo ≠ some i)
      ∧ t 10 = I q ∧ Sl H n o H2 n2 oo sq ∧ Seen l sq ∧ out.length = q) es.length
    ⟨0, [], seen, o, none, Nat.zero_le _, rfl, by simp, by simp, by simp, by simp, by simp, rfl, (fun i e => by cases e), by simp, ⟨ho, Nat.le_refl _, fun i hi => ⟨.inl hi, hlo i hi⟩, fun _ _ _ => rfl⟩, sn, rfl⟩ ?_
  rintro J2 hJ2 μ t H2 n2 ⟨q, out, sq, oo, ob, hq, rfl, hgo, t0, t1, t2, t9, hob', hob, t10, ws, sn2, hol⟩
  by_cases hlt : q < es.length
  · have hlti : (q : Int) < es.length := by omega
    have hld : partOf T.T 31 (List.drop (q * 3) (encs c31 es)) 0 = some (.agg (c31 es[q])) := part_agg (e := c31) (z := 3) T.t31 rfl rfl es q hlt
    obtain ⟨e, hxe⟩ : ∃ e, es[q] = e := ⟨_, rfl⟩
    have hdrop : es.drop q = e :: es.drop (q + 1) := by rw [List.drop_eq_getElem_cons hlt, hxe]
    rw [hxe] at hld
    rw [hdrop, reachGo] at hgo
    rw [c31_eq] at hld
    obtain ⟨Y, hY⟩ : ∃ Y : Mem, Y = upd (upd H2 n2 (some (.cells [.sc (.bool false), .sc (.int .i64 0), .sc (.int .i64 0)] 31))) n2 (some (.cells [B e.Is, I e.Node, I e.Num] 31)) := ⟨_, rfl⟩
    have hYk : ∀ j, j < n2 → Y j = H2 j := fun j hj => by rw [hY, upd_ne _ _ (by omega), upd_ne _ _ (by omega)]
    have yn : Y n2 = some (.cells [B e.Is, I e.Node, I e.Num] 31) := by rw [hY, upd_same]
    have hle := ws.le
    have wsY : Sl H n o Y (n2 + 1) oo sq := ⟨ws.own.mono fun i hi => hYk i (ws.of i hi).2, by omega, fun i hi => ⟨(ws.of i hi).1, by have := (ws.of i hi).2; omega⟩, fun j a1 a2 => by rw [hYk j (by omega), ws.keep j a1 a2]⟩
    have hoY : YtfflojbgikfbmaaW.Ah.Own Y 31 c31 ob out := hob'.mono fun i hi => hYk i (hob i hi).2.1
    have hobY : ∀ i, ob = some i → n ≤ i ∧ i < n2 + 1 ∧ oo ≠ some i := fun i hi => by have := hob i hi; exact ⟨this.1, by omega, this.2.2⟩
    have hE := M.ok_R17_edge 0 l e _ (M.edge_ok 0 l e)
    rw [c31_eq] at hE
    have wq := wrap_succ q (by omega)
    simp [t1, t10, hlt, hlti]
    iterate 4 (try (refine evS_sound (f := 4) ?_; simp [t0, t1, t10, hlt, hlti, hld, yn, ← hY]))
    iterate 4 (try (refine evS_sound (f := 4) ?_; simp [t0, t1, t10, hlt, hlti, yn, partOf, ← hY]))
    refine Stk.callF 4 hE rfl rfl rfl (by simp) (by simp [freeL, free, freeL_encs M.fr37]) rfl ?_
    cases hok : M.okB l e with
    | false =>
      simp
      iterate 8 (try (refine evS_sound (f := 4) ?_; simp))
      refine hr _ _ _ (.tup [.sc (.slice none 0 0), .sc (.slice none 0 0), B false]) (.tup [.sc (.slice none 0 0), .sc (.slice none 0 0), B false]) [] (by simp) (.inl rfl) ?_
      unfold ReachZ
      rw [hgo, if_neg (by simp [hok])]
      exact ⟨rfl, by omega, fun j a1 a2 => by simp [without]; rw [hYk j (by omega), ws.keep j a1 a2]⟩
    | true =>
      have hsl := sn2.len
      obtain ⟨Is, Node, Num⟩ := e
      have hst0 := sn2.step hok
      cases Is with
      | false =>
        simp only at yn
        simp [yn]
        iterate 4 (try (refine evS_sound (f := 4) ?_; simp [yn, partOf]))
        obtain ⟨j9, H9, n9, e9, o9, le9, f9, l9, k9⟩ := moreE hoY (fun i hi => (hobY i hi).2.1) (by omega) ⟨false, Node, Num⟩
        simp only at e9
        obtain ⟨lw, lj⟩ := layR wsY hobY le9 f9 l9 k9
        simp [t9, yn, e9, wq, partOf]
        iterate 8 (try (refine evS_sound (f := 4) ?_; simp [t0, t1, t9, t10, yn, e9, wq, partOf]))
        exact ⟨es.length - (q + 1), by omega, hJ2 _ _ _ _ ⟨q + 1, out ++ [⟨false, Node, Num⟩], _, _, some j9, hlt, rfl, by rw [hgo, if_pos hok]; rfl, by simp [t0], by simp [t1], by simp [t2], by simp, o9, (fun i hi => by cases hi; exact lj), by simp [wq], lw, sn2, by simp [hol]⟩⟩
      | true =>
        simp only at yn
        simp [yn]
        iterate 6 (try (refine evS_sound (f := 4) ?_; simp [t2, yn]))
        have hpl := M.ok_R17_place 70000 sq Node _ (placeR sq (by omega) Node)
        refine Stk.callB 4 oo.toList hpl rfl rfl rfl (by simp) (.cons (view_own M.fr3 wsY.own (fun i hi => by rw [hi]; simp)) (.free rfl)) rfl ?_
        cases hfn : findN Node sq 0 with
        | some i =>
          have hi0 : ¬ (i : Int) < 0 := by omega
          have hst : stepE sq ⟨true, Node, Num⟩ = (sq, ⟨true, i, Num⟩) := by unfold stepE; rw [hfn]; rfl
          obtain ⟨Z, hZ⟩ : ∃ Z : Mem, Z = upd Y n2 (some (.cells [B true, I i, I Num] 31)) := ⟨_, rfl⟩
          have zn : Z n2 = some (.cells [B true, I i, I Num] 31) := by rw [hZ, upd_same]
          have zk : ∀ j, j ≠ n2 → Z j = Y j := fun j hj => by rw [hZ, upd_ne _ _ hj]
          have wsZ : Sl H n o Z (n2 + 1) oo sq := ⟨wsY.own.mono fun i hi => zk i (by have := (ws.of i hi).2; omega), by omega, wsY.of, fun j a1 a2 => by rw [zk j (by omega), wsY.keep j a1 a2]⟩
          have hoZ : YtfflojbgikfbmaaW.Ah.Own Z 31 c31 ob out := hoY.mono fun i hi => zk i (by have := (hob i hi).2.1; omega)
          simp [hi0, yn, splice, ← hZ]
          iterate 8 (try (refine evS_sound (f := 4) ?_; simp [hi0, yn, zn, splice, partOf, ← hZ]))
          obtain ⟨j9, H9, n9, e9, o9, le9, f9, l9, k9⟩ := moreE hoZ (fun i hi => (hobY i hi).2.1) (by omega) ⟨true, i, Num⟩
          simp only at e9
          obtain ⟨lw, lj⟩ := layR wsZ hobY le9 f9 l9 k9
          simp [t9, zn, e9, wq, partOf]
          iterate 8 (try (refine evS_sound (f := 4) ?_; simp [t0, t1, t9, t10, zn, e9, wq, partOf]))
          exact ⟨es.length - (q + 1), by omega, hJ2 _ _ _ _ ⟨q + 1, out ++ [⟨true, i, Num⟩], _, _, some j9, hlt, rfl, by rw [hgo, if_pos hok, hst], by simp [t0], by simp [t1], by simp [t2], by simp, o9, (fun i hi => by cases hi; exact lj), by simp [wq], lw, sn2, by simp [hol]⟩⟩
        | none =>
          have hst : stepE sq ⟨true, Node, Num⟩ = (sq ++ [Node], ⟨true, sq.length, Num⟩) := by unfold stepE; rw [hfn]; rfl
          rw [hst] at hst0
          obtain ⟨j8, H8, n8, e8, o8, le8, f8, l8, k8⟩ := moreI (n := n2 + 1) wsY.own (fun i hi => (wsY.of i hi).2) (by omega) Node
          have k8n : H8 n2 = some (.cells [B true, I Node, I Num] 31) := by rw [k8 n2 (by omega) (fun e => by have := (ws.of n2 e).2; omega)]; exact yn
          have zk : ∀ (v : Int) j, j ≠ n2 → upd H8 n2 (some (.cells [B true, I v, I Num] 31)) j = H8 j := fun v j hj => upd_ne _ _ hj
          have j8n : j8 ≠ n2 := by
            rcases f8 with f | f
            · have := (ws.of j8 f).2; omega
            · omega
          have wsZv : ∀ v : Int, Sl H n o (upd H8 n2 (some (.cells [B true, I v, I Num] 31))) n8 (some j8) (sq ++ [Node]) := fun v => ⟨o8.mono fun i hi => by cases hi; exact zk v j8 j8n, by omega, fun i hi => by
            cases hi
            rcases f8 with f | f
            · exact ⟨(ws.of _ f).1, l8⟩
            · exact ⟨.inr (by omega), l8⟩, fun j a1 a2 => by
            rw [zk v j (by omega), k8 j (by omega) (fun e => by rcases (ws.of j e).1 with h | h; exact a2 h; omega), wsY.keep j a1 a2]⟩
          have hoZv : ∀ v : Int, YtfflojbgikfbmaaW.Ah.Own (upd H8 n2 (some (.cells [B true, I v, I Num] 31))) 31 c31 ob out := fun v => hoY.mono fun i hi => by
            have := hob i hi
            rw [zk v i (by omega), k8 i (by omega) this.2.2]
          have hobZ : ∀ i, ob = some i → n ≤ i ∧ i < n8 ∧ some j8 ≠ some i := fun i hi => by
            have := hob i hi
            refine ⟨this.1, by omega, fun e => ?_⟩
            cases e
            rcases f8 with f | f
            · exact this.2.2 f
            · omega
          cases oo with
          | none =>
            have h0 : sq = [] := ws.own
            have hl0 : sq.length = 0 := by rw [h0]; rfl
            have wsZ := wsZv (0 : Int)
            have hoZ := hoZv (0 : Int)
            obtain ⟨Z, hZ⟩ : ∃ Z : Mem, Z = upd H8 n2 (some (.cells [B true, I (0 : Int), I Num] 31)) := ⟨_, rfl⟩
            have zn : Z n2 = some (.cells [B true, I (0 : Int), I Num] 31) := by rw [hZ, upd_same]
            rw [← hZ] at wsZ hoZ
            simp at e8 t2
            simp [t2, yn, e8, k8n, splice, ← hZ]
            iterate 12 (try (refine evS_sound (f := 4) ?_; simp [t2, yn, e8, k8n, zn, splice, partOf, ← hZ]))
            obtain ⟨j9, H9, n9, e9, o9, le9, f9, l9, k9⟩ := moreE hoZ (fun i hi => (hobZ i hi).2.1) (by omega) ⟨true, (0 : Int), Num⟩
            simp only at e9
            obtain ⟨lw, lj⟩ := layR wsZ hobZ le9 f9 l9 k9
            simp [t9, zn, e9, wq, partOf]
            iterate 8 (try (refine evS_sound (f := 4) ?_; simp [t0, t1, t9, t10, zn, e9, wq, partOf]))
            exact ⟨es.length - (q + 1), by omega, hJ2 _ _ _ _ ⟨q + 1, out ++ [⟨true, (0 : Int), Num⟩], _, _, some j9, hlt, rfl, by rw [hgo, if_pos hok, hst, hl0]; rfl, by simp [t0], by simp [t1], by simp [hl0], by simp, o9, (fun i hi => by cases hi; exact lj), by simp [wq], lw, hst0, by simp [hol]⟩⟩
          | some b0 =>
            have wsZ := wsZv (sq.length : Int)
            have hoZ := hoZv (sq.length : Int)
            obtain ⟨Z, hZ⟩ : ∃ Z : Mem, Z = upd H8 n2 (some (.cells [B true, I (sq.length : Int), I Num] 31)) := ⟨_, rfl⟩
            have zn : Z n2 = some (.cells [B true, I (sq.length : Int), I Num] 31) := by rw [hZ, upd_same]
            rw [← hZ] at wsZ hoZ
            simp at e8 t2
            simp [t2, yn, e8, k8n, splice, ← hZ]
            iterate 12 (try (refine evS_sound (f := 4) ?_; simp [t2, yn, e8, k8n, zn, splice, partOf, ← hZ]))
            obtain ⟨j9, H9, n9, e9, o9, le9, f9, l9, k9⟩ := moreE hoZ (fun i hi => (hobZ i hi).2.1) (by omega) ⟨true, (sq.length : Int), Num⟩
            simp only at e9
            obtain ⟨lw, lj⟩ := layR wsZ hobZ le9 f9 l9 k9
            simp [t9, zn, e9, wq, partOf]
            iterate 8 (try (refine evS_sound (f := 4) ?_; simp [t0, t1, t9, t10, zn, e9, wq, partOf]))
            exact ⟨es.length - (q + 1), by omega, hJ2 _ _ _ _ ⟨q + 1, out ++ [⟨true, (sq.length : Int), Num⟩], _, _, some j9, hlt, rfl, by rw [hgo, if_pos hok, hst], by simp [t0], by simp [t1], by simp, by simp, o9, (fun i hi => by cases hi; exact lj), by simp [wq], lw, hst0, by simp [hol]⟩⟩
  · have hqe : q = es.length := by omega
    subst hqe
    simp [t1, t10]
    iterate 6 (try (refine evS_sound (f := 4) ?_; simp [t1, t9, t10]))
    refine hJ _ _ _ ?_
    refine Stk.cut (l' := (seqs body87).drop 6) [_, _] rfl fun J3 hJ3 => ?_
    rw [List.drop_length, reachGo] at hgo
    have hle := ws.le
    have nin : ∀ j, (j < n ∨ oo = some j) → j ∉ ob.toList := fun j hj hm => by
      rw [Option.mem_toList] at hm
      have := hob j hm
      rcases hj with h | h
      · omega
      · exact this.2.2 h
    refine Stk.wkf trivial ob.toList 9 (.ssl (encs c31 out) out.length false) (.inr (.inr (by
      simp [t9]
      exact view_own M.fr31 hob' (fun i hi => by rw [hi]; simp)))) (fun t' H3 ht' hk3 => ?_)
    subst ht'
    refine evS_sound (f := 9) ?_
    simp [codes, t2]
    iterate 4 (try (refine evS_sound (f := 4) ?_; simp))
    refine hr _ _ _ (.tup [.ssl (encs c31 out) out.length false, slv oo sq.length, B true]) (.tup [.ssl (encs c31 out) out.length false, slv oo sq.length, B true]) [] (by simp) (.inl rfl) ?_
    unfold ReachZ
    rw [hgo]
    refine ⟨oo, rfl, ⟨ws.own.mono fun i hi => by simp [without]; exact hk3 i (nin i (.inr hi)), ws.le, ws.of, fun j a1 a2 => by simp [without]; rw [hk3 j (nin j (.inl a1))]; exact ws.keep j a1 a2⟩⟩
end Go.Proofs.Ytfflojbgikfbmaa.Gra
