/-
  The document's Canon comes to what is computed.
-/
import Derived.Test.YtfflojbgikfbmaaGF
namespace Go.Proofs.Ytfflojbgikfbmaa.Gra
open Go.Proofs.YtfflojbgikfbmaaW.Ah
open M (api_Node api_Edge c3 c31 c37 Seen okB stepE reachGo findN)
set_option maxRecDepth 4000
set_option linter.unusedVariables false
set_option linter.unusedSimpArgs false
attribute [local simp] T.t2 T.t3 T.t4 T.t5 T.t22 T.t23 T.t26 T.t31 T.t34 T.t35 T.t37 T.t119 T.t124 T.t203 T.t138 T.t198 T.t200 Op.maxDepth List.range List.range.loop
attribute [-simp] appendAV cellsOf cellOk partOk
attribute [local simp] cellsOf_sc cellOk_sc partOk_sc cellsOf_own cellOk_own partOk_own cellsOf_osl cellOk_osl partOk_osl cellsOf_sh cellOk_sh partOk_sh cellsOf_ssl cellOk_ssl partOk_ssl cellsOf_esl cellOk_esl partOk_esl cellsOf_fn cellOk_fn partOk_fn cellsOf_omap cellOk_omap partOk_omap cellsOf_agg partOk_agg cellsOf_slv cellOk_slv partOk_slv

noncomputable def body30 : Code := Try.f30.body.getD .skip

/-- The last two of a block's five cells are given away. -/
theorem Stk.give2 {P : Program} {T : Tab} {k : Nat} {x : It} {st : List It} {t : Nat → AV} {H : Mem} {n : Nat} {C : Cont} {q : Nat} {x1 x2 x3 v v' w w' : AV} {ty : Nat} (hx : match x with | .code _ => True | .ops _ _ => True | _ => False) (ids : List Nat) (hq : H q = some (.cells [x1, x2, x3, v, w] ty)) (hqi : q ∉ ids) (hv : Vw T H ids v v') (hw : Vw T H ids w w')
    (h : ∀ H', H' q = some (.cells [x1, x2, x3, v', w'] ty) → (∀ j, j ∉ ids → j ≠ q → H' j = H j) → Stk P T k (x :: st) t H' n C) : Stk P T k (x :: st) t H n C := by
  have hwk : Weak T ⟨t, H, n⟩ ⟨t, fun j => if j ∈ ids then none else if j = q then some (.cells [x1, x2, x3, v', w'] ty) else H j, n⟩ ids := by
    refine ⟨fun i => .inl rfl, fun i => ?_, Nat.le_refl _⟩
    show (if i ∈ ids then none else if i = q then some (.cells [x1, x2, x3, v', w'] ty) else H i) = none ∨ _
    by_cases e : i ∈ ids
    · exact .inl (by rw [if_pos e])
    · refine .inr ⟨e, ?_⟩
      by_cases e2 : i = q
      · subst e2
        refine .inr ⟨[x1, x2, x3, v, w], [x1, x2, x3, v', w'], ty, hq, by show (if i ∈ ids then none else _) = _; rw [if_neg e, if_pos rfl], Nat.le_refl _, fun j a' ha => ?_⟩
        match j, ha with
        | 0, ha => exact ⟨x1, rfl, by simp at ha; exact .inl ha.symm⟩
        | 1, ha => exact ⟨x2, rfl, by simp at ha; exact .inl ha.symm⟩
        | 2, ha => exact ⟨x3, rfl, by simp at ha; exact .inl ha.symm⟩
        | 3, ha => exact ⟨v, rfl, by simp at ha; subst ha; exact hv⟩
        | 4, ha => exact ⟨w, rfl, by simp at ha; subst ha; exact hw⟩
        | j + 5, ha => simp at ha
      · exact .inl (by show (if i ∈ ids then none else _) = _; rw [if_neg e, if_neg e2])
  have h' := h (fun j => if j ∈ ids then none else if j = q then some (.cells [x1, x2, x3, v', w'] ty) else H j) (by simp [hqi]) (fun j h1 h2 => by simp [h1, h2])
  cases x with
  | code c => simp only [Stk] at h' ⊢; exact EvQ.weak ids hwk h'
  | ops G l => simp only [Stk] at h' ⊢; exact EvLQ.weak ids hwk h'
  | _ => exact hx.elim

theorem moreY {H : Mem} {n : Nat} (xs : List Int) (hl : xs.length ≤ 65536) :
    ∃ o' H' n', appendAV T.T H n 35 (.sc (.slice none 0 0)) (.ssl (encs M.c5 xs) xs.length false) = some (slv o' xs.length, H', n') ∧ YtfflojbgikfbmaaW.Ah.Own H' 5 M.c5 o' xs ∧ n ≤ n' ∧ (∀ i, o' = some i → n ≤ i ∧ i < n') ∧ (∀ j, j < n → H' j = H j) := by
  obtain ⟨o', H', n', e1, o1, le1, f1, k1⟩ := append_own (e := M.c5) (z := 1) T.t35 rfl T.t5 rfl (by decide) rfl (by decide) (H := H) (n := n) (o := none) (xs := []) rfl (fun i e => by cases e) (y := .ssl (encs M.c5 xs) xs.length false) xs (by simp [elemsOf, length_encs]; exact List.take_of_length_le (by simp [length_encs])) (all_encs M.ok5 xs) (by simp [roomMax]; omega) (by simp [roomMax]; omega)
  exact ⟨o', H', n', by simpa using e1, by simpa using o1, le1, fun i hi => ⟨by have := (f1 i hi).1; rcases this with h | h; cases h; exact h, (f1 i hi).2⟩, fun j hj => k1 j hj (by simp)⟩

structure InvR (l : List api_Node) (out : List api_Edge) (G : Option (List api_Node)) (i : Nat) (t : Nat → AV) (H : Mem) (n : Nat) : Prop where
  t0 : t 0 = .ssl (encs c37 l) l.length false
  t7 : t 7 = .ssl (encs c31 out) out.length false
  t11 : t 11 = I i
  go : ∃ (seen : List Int) (o : Option Nat) (nodes : List api_Node) (on : Option Nat), t 9 = B true ∧ t 8 = slv o seen.length ∧ YtfflojbgikfbmaaW.Ah.Own H 3 c3 o seen ∧ (∀ j, o = some j → j < n) ∧ Seen l seen ∧ i ≤ seen.length ∧ t 10 = slv on nodes.length ∧ nodes.length = i ∧ YtfflojbgikfbmaaW.Ah.Own H 37 c37 on nodes ∧ (∀ j, on = some j → j < n ∧ o ≠ some j) ∧ G = M.canonGo l (l.length + 1 - i) i seen nodes

theorem InvR.of {l : List api_Node} {out : List api_Edge} {G : Option (List api_Node)} {i : Nat} {t t' : Nat → AV} {H : Mem} {n : Nat} (s : InvR l out G i t H n) (h : ∀ j, j < 12 → t' j = t j) : InvR l out G i t' H n := by
  obtain ⟨a, b, c, d⟩ := s
  rw [← h 0 (by decide)] at a
  rw [← h 7 (by decide)] at b
  rw [← h 11 (by decide)] at c
  rw [← h 9 (by decide), ← h 8 (by decide), ← h 10 (by decide)] at d
  exact ⟨a, b, c, d⟩

theorem canonR (l : List api_Node) (x : List api_Edge) (few : Few l) (hx : x.length ≤ 60000) :
    RunF Try.prog T.T 30 [.ssl (encs c37 l) l.length false, .ssl (encs c31 x) x.length false] (RV (M.canonP l x)) := by
  refine RunF.partsZ (c := body30) Try.func30 (by rfl) rfl rfl rfl rfl fun C hr => ?_
  refine Stk.cut (l' := (seqs body30).drop 4) [_, _, _, _] rfl fun J hJ => ?_
  refine evS_sound (f := 9) ?_
  simp [codes]
  iterate 4 (try (refine evS_sound (f := 8) ?_; simp))
  have hq := reachQ (H := fun _ => none) (n := 0) (o := none) (seen := []) rfl (fun i e => by cases e) l x few.len hx ⟨List.nodup_nil, fun k hk => by simp at hk⟩
  refine Stk.callS 4 hq rfl rfl rfl (by simp) ?_
  intro v H1 n1 hv
  unfold ReachZ at hv
  have hcp : M.canonP l x = (match reachGo l x [] [] with | some (out, seen) => (match M.canonGo l (l.length + 1) 0 seen [] with | some nodes => (nodes, out, 0) | none => ([], [], 19)) | none => ([], [], 19)) := rfl
  rw [hcp] at hr
  have bad : ∀ (t : Nat → AV) (H : Mem) (n : Nat), t 9 = B false → (∀ t H n r1 ids, resOf T.T Try.f30.results.toList ⟨t, H, n⟩ = some r1 → Vw T.T H ids r1 (RV ([], [], 19)) → C .ret t H n) → Stk Try.prog T.T 64 (codes ((seqs body30).drop 5)) t H n C := by
    intro t H n t9 hr
    refine Stk.cut (l' := (seqs body30).drop 9) [_, _, _, _] rfl fun J hJ => ?_
    refine evS_sound (f := 9) ?_
    simp [codes, t9]
    iterate 4 (try (refine evS_sound (f := 4) ?_; simp))
    exact hr _ _ _ (.tup [.sc (.slice none 0 0), .sc (.slice none 0 0), I 19]) [] (by simp) (.inr (.inr (.tup (.cons .nilS (.cons .nilS (.free rfl))))))
  cases hre : reachGo l x [] [] with
  | none =>
    rw [hre] at hv hr
    obtain ⟨rfl, hle, hk⟩ := hv
    simp
    iterate 8 (try (refine evS_sound (f := 4) ?_; simp))
    refine hJ _ _ _ ?_
    refine Stk.cut (l' := (seqs body30).drop 5) [_] rfl fun J3 hJ3 => ?_
    refine evS_sound (f := 3) ?_
    simp [codes]
    refine Stk.loop 4 (fun μ t H n => t 9 = B false) 0 (by simp) ?_
    rintro J2 hJ2 μ t H n t9
    simp [t9]
    iterate 6 (try (refine evS_sound (f := 4) ?_; simp [t9]))
    exact hJ3 _ _ _ (bad _ _ _ (by simp [t9]) hr)
  | some os =>
    obtain ⟨out, seen⟩ := os
    rw [hre] at hv hr
    simp only at hv hr
    obtain ⟨o, rfl, ws⟩ := hv
    simp
    iterate 8 (try (refine evS_sound (f := 4) ?_; simp))
    refine hJ _ _ _ ?_
    obtain ⟨G, hG⟩ : ∃ G, G = M.canonGo l (l.length + 1) 0 seen [] := ⟨_, rfl⟩
    rw [← hG] at hr
    have sn0 : Seen l seen := M.Seen.reach _ _ _ ⟨List.nodup_nil, fun k hk => by simp at hk⟩ hre
    have good : ∀ (i : Nat) (t : Nat → AV) (H : Mem) (n : Nat), InvR l out G i t H n → (∀ seen o, t 9 = B true → t 8 = slv o seen.length → YtfflojbgikfbmaaW.Ah.Own H 3 c3 o seen → i ≤ seen.length → seen.length ≤ i) → Stk Try.prog T.T 64 (codes ((seqs body30).drop 5)) t H n C := by
      intro i t H n inv hend
      obtain ⟨sn, o, nodes, on, t9, t8, ho, hlo, hsn, hil, t10, hnl, hon, hond, hgo⟩ := inv.go
      have hie := hend sn o t9 t8 ho hil
      have hsl := hsn.len
      have hfuel : l.length + 1 - i = (l.length - i) + 1 := by omega
      rw [hfuel, M.canonGo, List.getElem?_eq_none hie] at hgo
      simp only at hgo
      rw [hgo] at hr
      have t7 := inv.t7
      refine Stk.cut (l' := (seqs body30).drop 9) [_, _, _, _] rfl fun J hJ => ?_
      refine evS_sound (f := 9) ?_
      simp [codes, t9, t10, t7]
      iterate 4 (try (refine evS_sound (f := 4) ?_; simp [t10, t7]))
      exact hr _ _ _ (.tup [slv on nodes.length, .ssl (encs c31 out) out.length false, I 0]) on.toList (by simp) (.inr (.inr (.tup (.cons (view_own M.fr37 hon (fun i hi => by rw [hi]; simp)) (.free (by simp [freeL, free, freeL_encs M.fr31]))))))
    refine Stk.cut (l' := (seqs body30).drop 5) [_] rfl fun J3 hJ3 => ?_
    refine evS_sound (f := 3) ?_
    simp [codes]
    refine Stk.loop 4 (fun μ t H n => (∃ i, μ = l.length + 2 - i ∧ InvR l out G i t H n) ∨ (μ = 0 ∧ t 9 = B false ∧ G = none)) (l.length + 2) (.inl ⟨0, rfl, by simp, by simp, by simp, seen, o, [], none, by simp, by simp, ws.own, (fun j hj => (ws.of j hj).2), sn0, Nat.zero_le _, by simp, rfl, rfl, (fun j e => by cases e), hG⟩) ?_
    rintro J2 hJ2 μ t H n (⟨i, rfl, inv⟩ | ⟨rfl, t9, hGn⟩)
    · have t0 := inv.t0
      have t7 := inv.t7
      have t11 := inv.t11
      obtain ⟨sq, oo, nodes, on, t9, t8, ho, hlo, hsn, hil, t10, hnl, hon, hond, hgo⟩ := inv.go
      by_cases hlt : i < sq.length
      · have hlti : (i : Int) < sq.length := by omega
        obtain ⟨b2, hb2⟩ : ∃ b2, oo = some b2 := by
          cases oo with
          | none => simp only [YtfflojbgikfbmaaW.Ah.Own] at ho; subst ho; simp at hlt
          | some b2 => exact ⟨b2, rfl⟩
        subst hb2
        have hoo := ho
        obtain ⟨ys, hown⟩ := ho
        have hget : sq[i]? = some sq[i] := List.getElem?_eq_getElem hlt
        obtain ⟨k, hk⟩ : ∃ k, sq[i] = k := ⟨_, rfl⟩
        rw [hk] at hget
        have hldk : partOf T.T 3 (encs c3 sq ++ ys) i = some (I k) := by
          have e : (encs c3 sq ++ ys)[i]? = some (I sq[i]) := by
            have := cell_own (e := c3) (z := 1) sq ys i 0 hlt (by omega)
            simpa using this
          rw [hk] at e
          simp [partOf, e]
        obtain ⟨k0, k1⟩ := hsn.lt k (List.mem_of_getElem? hget)
        obtain ⟨kk, rfl⟩ := Int.eq_ofNat_of_zero_le k0
        have hkl : kk < l.length := by omega
        have hkli : (kk : Int) < l.length := by omega
        obtain ⟨nd, hnd⟩ : ∃ nd, l[kk] = nd := ⟨_, rfl⟩
        have hgetl : l[kk]? = some nd := by rw [List.getElem?_eq_getElem hkl, hnd]
        obtain ⟨hkids, hkw, hby⟩ := few.kids nd (by rw [← hnd]; exact List.getElem_mem hkl)
        have hln : partOf T.T 37 (List.drop (kk * 5) (encs c37 l)) 0 = some (.agg (c37 nd)) := by rw [← hnd]; exact part_agg (e := c37) (z := 5) T.t37 rfl rfl l kk hkl
        rw [c37_eq] at hln
        have wi := wrap_succ i (by have := hsn.len; have := few.len; omega)
        simp only [slv_some] at t8
        obtain ⟨Y, hY⟩ : ∃ Y : Mem, Y = upd (upd H n (some (.cells [.sc (.int .i64 0), .sc (.int .i64 0), .sc (.int .i64 0), .sc (.slice none 0 0), .sc (.slice none 0 0)] 37))) n (some (.cells [I nd.Head.Kind, I nd.Head.Tag, I nd.Head.Count, .ssl (encs M.c5 nd.Bytes) nd.Bytes.length false, .ssl (encs c31 nd.Kids) nd.Kids.length false] 37)) := ⟨_, rfl⟩
        have hYk : ∀ j, j < n → Y j = H j := fun j hj => by rw [hY, upd_ne _ _ (by omega), upd_ne _ _ (by omega)]
        have yn : Y n = some (.cells [I nd.Head.Kind, I nd.Head.Tag, I nd.Head.Count, .ssl (encs M.c5 nd.Bytes) nd.Bytes.length false, .ssl (encs c31 nd.Kids) nd.Kids.length false] 37) := by rw [hY, upd_same]
        simp [t0, t8, t9, t11, hlt, hlti]
        iterate 6 (try (refine evS_sound (f := 4) ?_; simp [t0, t8, t9, t11, hlt, hlti, hown, hldk, hkl, hkli, hln, splice, yn, ← hY]))
        obtain ⟨Y2, hY2⟩ : ∃ Y2 : Mem, Y2 = upd (upd Y (n + 1) (some (.cells [.sc (.int .i64 0), .sc (.int .i64 0), .sc (.int .i64 0), .sc (.slice none 0 0), .sc (.slice none 0 0)] 37))) (n + 1) (some (.cells [I nd.Head.Kind, I nd.Head.Tag, I nd.Head.Count, .sc (.slice none 0 0), .sc (.slice none 0 0)] 37)) := ⟨_, rfl⟩
        have hY2k : ∀ j, j < n + 1 → Y2 j = Y j := fun j hj => by rw [hY2, upd_ne _ _ (by omega), upd_ne _ _ (by omega)]
        have y2n := (hY2k n (by omega)).trans yn
        have y2m : Y2 (n + 1) = some (.cells [I nd.Head.Kind, I nd.Head.Tag, I nd.Head.Count, .sc (.slice none 0 0), .sc (.slice none 0 0)] 37) := by rw [hY2, upd_same]
        obtain ⟨ob, H5, n5, e5, o5, le5, f5, k5⟩ := moreY (H := Y2) (n := n + 1 + 1) nd.Bytes (by omega)
        have h5n := (k5 n (by omega)).trans y2n
        have h5m := (k5 (n + 1) (by omega)).trans y2m
        obtain ⟨H6, hH6⟩ : ∃ H6 : Mem, H6 = upd H5 (n + 1) (some (.cells [I nd.Head.Kind, I nd.Head.Tag, I nd.Head.Count, slv ob nd.Bytes.length, .sc (.slice none 0 0)] 37)) := ⟨_, rfl⟩
        have h6m : H6 (n + 1) = some (.cells [I nd.Head.Kind, I nd.Head.Tag, I nd.Head.Count, slv ob nd.Bytes.length, .sc (.slice none 0 0)] 37) := by rw [hH6, upd_same]
        have h6k : ∀ j, j ≠ n + 1 → H6 j = H5 j := fun j hj => by rw [hH6, upd_ne _ _ hj]
        have h6n := (h6k n (by omega)).trans h5n
        iterate 16 (try (refine evS_sound (f := 4) ?_; simp [t0, t8, yn, y2n, y2m, e5, h5n, h5m, h6n, h6m, partOf, splice, ← hY2, ← hH6]))
        have g5 : ∀ j, j < n → H6 j = H j := fun j hj => by rw [h6k j (by omega), k5 j (by omega), hY2k j (by omega), hYk j hj]
        have hob6 : YtfflojbgikfbmaaW.Ah.Own H6 5 M.c5 ob nd.Bytes := o5.mono fun j hj => h6k j (by have := f5 j hj; omega)
        refine Stk.give2 trivial ob.toList h6m (fun hm => by rw [Option.mem_toList] at hm; have := f5 _ hm; omega) (.inr (.inr (view_own M.fr5 hob6 (fun j hj => by rw [hj]; simp)))) (.inr (.inr .nilS)) (fun H7 h7m h7k => ?_)
        have nin : ∀ j, j < n + 2 → j ∉ ob.toList := fun j hj hm => by rw [Option.mem_toList] at hm; have := f5 j hm; omega
        have g7 : ∀ j, j < n → H7 j = H j := fun j hj => by rw [h7k j (nin j (by omega)) (by omega), g5 j hj]
        have h7n := (h7k n (nin n (by omega)) (by omega)).trans h6n
        have hsl := hsn.len
        have hfuel : l.length + 1 - i = (l.length - i) + 1 := by omega
        conv at hgo => rhs; rw [hfuel, M.canonGo, hget]
        simp only [Int.toNat_natCast, hgetl] at hgo
        refine Stk.cs (reachQ (o := some b2) (hoo.mono fun j hj => g7 j (hlo j hj)) (fun j hj => by have := hlo j hj; omega) l nd.Kids few.len hkids hsn) rfl rfl rfl (by simp) (fun v H8 n8 hv t1 ht1 => ?_)
        unfold ReachZ at hv
        cases hre2 : reachGo l nd.Kids [] sq with
        | none =>
          rw [hre2] at hv hgo
          obtain ⟨rfl, hle8, hk8⟩ := hv
          have h8m : H8 (n + 1) = some (.cells [I nd.Head.Kind, I nd.Head.Tag, I nd.Head.Count, .ssl (encs M.c5 nd.Bytes) nd.Bytes.length false, .ssl [] 0 false] 37) := by rw [hk8 (n + 1) (by omega) (fun e => by have := hlo b2 rfl; cases e; omega)]; exact h7m
          refine Stk.wk trivial 51 (.tup [.ssl [] 0 false, .ssl [] 0 false, B false]) (by rw [ht1]; simp; exact .inr (.inr (.tup (.cons .nilS (.cons .nilS (.free rfl)))))) (fun t2 ht2 => ?_)
          have u51 : t2 51 = .tup [.ssl [] 0 false, .ssl [] 0 false, B false] := by rw [ht2, upd_same]
          have u0 : t2 0 = .ssl (encs c37 l) l.length false := by rw [ht2]; simp [ht1, t0]
          have u7 : t2 7 = .ssl (encs c31 out) out.length false := by rw [ht2]; simp [ht1, t7]
          have u10 : t2 10 = slv on nodes.length := by rw [ht2]; simp [ht1, t10]
          have u11 : t2 11 = I i := by rw [ht2]; simp [ht1, t11]
          have u13 : t2 13 = .own (n + 1) 0 := by rw [ht2]; simp [ht1]
          clear ht2 ht1
          obtain ⟨Z, hZ⟩ : ∃ Z : Mem, Z = upd H8 (n + 1) (some (.cells [I nd.Head.Kind, I nd.Head.Tag, I nd.Head.Count, .ssl (encs M.c5 nd.Bytes) nd.Bytes.length false, .ssl [] 0 false] 37)) := ⟨_, rfl⟩
          have zm : Z (n + 1) = some (.cells [I nd.Head.Kind, I nd.Head.Tag, I nd.Head.Count, .ssl (encs M.c5 nd.Bytes) nd.Bytes.length false, .ssl [] 0 false] 37) := by rw [hZ, upd_same]
          have zk : ∀ j, j ≠ n + 1 → Z j = H8 j := fun j hj => by rw [hZ, upd_ne _ _ hj]
          have honZ : YtfflojbgikfbmaaW.Ah.Own Z 37 c37 on nodes := hon.mono fun j hj => by
            have h1 := hond j hj
            rw [zk j (by omega), hk8 j (by omega) h1.2, g7 j h1.1]
          obtain ⟨j9, H9, n9, e9, o9, le9, f9, l9, k9⟩ := moreN (n := n8) honZ (fun j hj => by have := hond j hj; omega) (by have := few.len; omega) ⟨nd.Head, nd.Bytes, []⟩
          have e9 : appendAV T.T (upd Z n8 (some (.cells [I nd.Head.Kind, I nd.Head.Tag, I nd.Head.Count, .ssl (encs M.c5 nd.Bytes) nd.Bytes.length false, .ssl [] 0 false] 37))) (n8 + 1) 22 (slv on nodes.length) (.osl n8 0 1 (some 1)) = some (.osl j9 0 (nodes.length + 1) none, H9, n9) := e9
          refine evS_sound (f := 2) ?_
          simp [u51, u13, h8m, splice, ← hZ]
          iterate 16 (try (refine evS_sound (f := 4) ?_; simp [u10, u11, u13, u51, h8m, zm, e9, wi, splice, partOf, ← hZ]))
          exact ⟨0, by omega, hJ2 _ _ _ _ (.inr ⟨rfl, by simp, hgo⟩)⟩
        | some ks =>
          obtain ⟨kids, seen'⟩ := ks
          rw [hre2] at hv hgo
          simp only at hv hgo
          obtain ⟨o8, rfl, sl⟩ := hv
          have hle8 := sl.le
          have hk8 := sl.keep
          have sn' : Seen l seen' := M.Seen.reach _ _ _ hsn hre2
          have hln' := M.reach_len _ _ _ hre2
          simp only at hln'
          have h8m : H8 (n + 1) = some (.cells [I nd.Head.Kind, I nd.Head.Tag, I nd.Head.Count, .ssl (encs M.c5 nd.Bytes) nd.Bytes.length false, .ssl [] 0 false] 37) := by rw [hk8 (n + 1) (by omega) (fun e => by have := hlo b2 rfl; cases e; omega)]; exact h7m
          obtain ⟨t2, ht2⟩ : ∃ t2, t2 = t1 := ⟨_, rfl⟩
          rw [← ht2]
          have u51 : t2 51 = .tup [.ssl (encs c31 kids) kids.length false, slv o8 seen'.length, B true] := by rw [ht2, ht1]; simp
          have u0 : t2 0 = .ssl (encs c37 l) l.length false := by rw [ht2]; simp [ht1, t0]
          have u7 : t2 7 = .ssl (encs c31 out) out.length false := by rw [ht2]; simp [ht1, t7]
          have u10 : t2 10 = slv on nodes.length := by rw [ht2]; simp [ht1, t10]
          have u11 : t2 11 = I i := by rw [ht2]; simp [ht1, t11]
          have u13 : t2 13 = .own (n + 1) 0 := by rw [ht2]; simp [ht1]
          clear ht2 ht1
          obtain ⟨Z, hZ⟩ : ∃ Z : Mem, Z = upd H8 (n + 1) (some (.cells [I nd.Head.Kind, I nd.Head.Tag, I nd.Head.Count, .ssl (encs M.c5 nd.Bytes) nd.Bytes.length false, .ssl (encs c31 kids) kids.length false] 37)) := ⟨_, rfl⟩
          have zm : Z (n + 1) = some (.cells [I nd.Head.Kind, I nd.Head.Tag, I nd.Head.Count, .ssl (encs M.c5 nd.Bytes) nd.Bytes.length false, .ssl (encs c31 kids) kids.length false] 37) := by rw [hZ, upd_same]
          have zk : ∀ j, j ≠ n + 1 → Z j = H8 j := fun j hj => by rw [hZ, upd_ne _ _ hj]
          have honZ : YtfflojbgikfbmaaW.Ah.Own Z 37 c37 on nodes := hon.mono fun j hj => by
            have h1 := hond j hj
            rw [zk j (by omega), hk8 j (by omega) h1.2, g7 j h1.1]
          obtain ⟨j9, H9, n9, e9, o9, le9, f9, l9, k9⟩ := moreN (n := n8) honZ (fun j hj => by have := hond j hj; omega) (by have := few.len; omega) ⟨nd.Head, nd.Bytes, kids⟩
          have e9 : appendAV T.T (upd Z n8 (some (.cells [I nd.Head.Kind, I nd.Head.Tag, I nd.Head.Count, .ssl (encs M.c5 nd.Bytes) nd.Bytes.length false, .ssl (encs c31 kids) kids.length false] 37))) (n8 + 1) 22 (slv on nodes.length) (.osl n8 0 1 (some 1)) = some (.osl j9 0 (nodes.length + 1) none, H9, n9) := e9
          refine evS_sound (f := 2) ?_
          simp [u51, u13, h8m, splice, ← hZ]
          iterate 16 (try (refine evS_sound (f := 4) ?_; simp [u10, u11, u13, u51, h8m, zm, e9, wi, splice, partOf, ← hZ]))
          have o8j : ∀ j, o8 = some j → (b2 = j ∨ n5 ≤ j) ∧ j < n8 ∧ on ≠ some j := fun j hj => by
            have h1 := sl.of j hj
            refine ⟨h1.1.imp (fun e => by simpa using e) id, h1.2, fun e => ?_⟩
            have h2 := hond j e
            rcases h1.1 with h | h
            · exact h2.2 h
            · omega
          have hb2 := hlo b2 rfl
          refine ⟨l.length + 2 - (i + 1), by omega, hJ2 _ _ _ _ (.inl ⟨i + 1, rfl, by simp [u0], by simp [u7], by simp [wi], seen', o8, nodes ++ [⟨nd.Head, nd.Bytes, kids⟩], some j9, by simp, by simp, sl.own.mono fun j hj => ?_, fun j hj => by have := (o8j j hj).2.1; omega, sn', by omega, by simp, by simp [hnl], o9, fun j hj => ?_, by rw [hgo, show l.length + 1 - (i + 1) = l.length - i by omega]⟩)⟩
          · have h1 := o8j j hj
            rw [k9 j h1.2.1 h1.2.2, zk j (by omega)]
          · cases hj
            refine ⟨l9, fun e => ?_⟩
            have h1 := o8j _ e
            rcases f9 with f | f
            · exact h1.2.2 f
            · omega
      · have hend : i = sq.length := by omega
        have inv' : ∀ t', (∀ j, j < 12 → t' j = t j) → J3 0 t' H n := fun t' ht' => hJ3 _ _ _ (good i t' H n (inv.of ht') (fun sn o2 e9 e8 hown hle => by
          rw [ht' 8 (by decide), t8] at e8
          have : sq.length = sn.length := by
            cases oo with
            | none =>
              have h0 : sq = [] := ho
              cases o2 with
              | none => have h1 : sn = [] := hown; rw [h0, h1]
              | some b => simp at e8
            | some b =>
              cases o2 with
              | none => simp at e8
              | some b2 => simp at e8; exact e8.2
          omega))
        cases oo with
        | none =>
          have h0 : sq = [] := ho
          have hi0 : i = 0 := by rw [hend, h0]; rfl
          simp only [slv_none] at t8
          simp [t8, t9, t11, hi0]
          iterate 6 (try (refine evS_sound (f := 4) ?_; simp [t8, t9, t11, hi0]))
          exact inv' _ (fun j hj => by simp [upd, show ∀ m : Nat, 12 ≤ m → ¬ j = m from fun m hm => by omega])
        | some b2 =>
          simp only [slv_some] at t8
          simp [t8, t9, t11, hlt, show ¬ (i : Int) < sq.length by omega]
          iterate 6 (try (refine evS_sound (f := 4) ?_; simp [t8, t9, t11, hlt, show ¬ (i : Int) < sq.length by omega]))
          exact inv' _ (fun j hj => by simp [upd, show ∀ m : Nat, 12 ≤ m → ¬ j = m from fun m hm => by omega])
    · simp [t9]
      iterate 6 (try (refine evS_sound (f := 4) ?_; simp [t9]))
      rw [hGn] at hr
      exact hJ3 _ _ _ (bad _ _ _ (by simp [t9]) hr)
end Go.Proofs.Ytfflojbgikfbmaa.Gra
