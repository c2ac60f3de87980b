/-
  graph.Canon comes to what is computed.
-/
import Derived.Test.YtfflojbgikfbmaaGD
namespace Go.Proofs.Ytfflojbgikfbmaa.Gra
open Go.Proofs.YtfflojbgikfbmaaW.Ah
open M (api_Node api_Edge c3 c31 c37 Seen okB stepE reachGo findN)
set_option maxRecDepth 4000
set_option linter.unusedVariables false
set_option linter.unusedSimpArgs false
attribute [local simp] T.t2 T.t3 T.t4 T.t5 T.t22 T.t23 T.t26 T.t31 T.t34 T.t35 T.t37 T.t119 T.t124 T.t203 T.t138 T.t198 T.t200 Op.maxDepth List.range List.range.loop
attribute [-simp] appendAV cellsOf cellOk partOk
attribute [local simp] cellsOf_sc cellOk_sc partOk_sc cellsOf_own cellOk_own partOk_own cellsOf_osl cellOk_osl partOk_osl cellsOf_sh cellOk_sh partOk_sh cellsOf_ssl cellOk_ssl partOk_ssl cellsOf_esl cellOk_esl partOk_esl cellsOf_fn cellOk_fn partOk_fn cellsOf_omap cellOk_omap partOk_omap cellsOf_agg partOk_agg cellsOf_slv cellOk_slv partOk_slv

noncomputable def body16 : Code := Try.f16.body.getD .skip
theorem c37_eq (n : api_Node) : c37 n = [I n.Head.Kind, I n.Head.Tag, I n.Head.Count, .ssl (encs M.c5 n.Bytes) n.Bytes.length false, .ssl (encs c31 n.Kids) n.Kids.length false] := rfl

theorem RunF.partsZ {f : FuncId} {fn : Func} {c : Code} {args : List AV} {r : AV} (h1 : Try.prog.funcs[f]? = some fn) (h2 : fn.body = some c) (h3 : (fn.name == "runtime.NumGoroutine") = false) {k : Nat} (hk : fn.ntmps = k) (h4 : Nat.ble args.length k = true) {rs : List ResultVar} (hrs : fn.results.toList = rs)
    (h : ∀ C : Cont, (∀ t H n r1 ids, resOf T.T rs ⟨t, H, n⟩ = some r1 → Vw T.T H ids r1 r → C .ret t H n) → Stk Try.prog T.T k (codes (seqs c)) (initT args) (fun _ => none) 0 C) : RunF Try.prog T.T f args r := by
  refine RunF.z h1 h2 h3 hk h4 hrs fun C a => ?_
  have := Stk.seqs c [] (by rw [List.append_nil]; exact h C (fun t H n r1 ids x y => (a t H n r1 ids x y).1))
  exact this

theorem moreN {H : Mem} {n : Nat} {o : Option Nat} {xs : List api_Node} (ho : YtfflojbgikfbmaaW.Ah.Own H 37 c37 o xs) (hn : ∀ i, o = some i → i < n) (hl : xs.length ≤ 65536) (x : api_Node) :
    ∃ i H' n', appendAV T.T (upd H n (some (.cells [I x.Head.Kind, I x.Head.Tag, I x.Head.Count, .ssl (encs M.c5 x.Bytes) x.Bytes.length false, .ssl (encs c31 x.Kids) x.Kids.length false] 37))) (n + 1) 22 (slv o xs.length) (.osl n 0 1 (some 1)) = some (.osl i 0 (xs.length + 1) none, H', n') ∧ YtfflojbgikfbmaaW.Ah.Own H' 37 c37 (some i) (xs ++ [x]) ∧ n ≤ n' ∧ (o = some i ∨ n ≤ i) ∧ i < n' ∧ (∀ j, j < n → o ≠ some j → H' j = H j) := by
  obtain ⟨o', H', n', e1, o1, le1, f1, k1⟩ := append_own (e := c37) (z := 5) T.t22 rfl T.t37 rfl (by decide) rfl (by decide) (H := upd H n (some (.cells (c37 x) 37))) (n := n + 1) (o := o) (xs := xs)
    (ho.mono fun i hi => upd_ne _ _ (by have := hn i hi; omega)) (fun i hi => by have := hn i hi; omega) (y := .osl n 0 1 (some 1)) [x] (by simp [encs, c37_eq]) (by simp [encs, c37_eq, cellOk_sc, cellOk_ssl]) (by simp [roomMax]; omega) (by simp [roomMax]; omega)
  cases o' with
  | none => simp [YtfflojbgikfbmaaW.Ah.Own] at o1
  | some i =>
    have := f1 i rfl
    refine ⟨i, H', n', by simpa [c37_eq] using e1, o1, by omega, ?_, this.2, fun j hj hne => by rw [k1 j (by omega) hne, upd_ne _ _ (by omega)]⟩
    rcases this.1 with h | h
    · exact .inl h
    · exact .inr (by omega)

structure Few (l : List api_Node) : Prop where
  len : l.length ≤ 50000
  kids : ∀ n ∈ l, n.Kids.length ≤ 60000 ∧ (∀ e ∈ n.Kids, W31 e) ∧ n.Bytes.length ≤ 60000

abbrev RV (x : List api_Node × List api_Edge × Int) : AV := .tup [.ssl (encs c37 x.1) x.1.length false, .ssl (encs c31 x.2.1) x.2.1.length false, I x.2.2]

/-- How things stand ahead of a round. -/
structure Inv (l : List api_Node) (out : List api_Edge) (seen0 : List Int) (p m q7 N : Nat) (tB : Nat → AV) (A Bo : Code) (i : Nat) (seen : List Int) (o : Option Nat) (H : Mem) (n : Nat) : Prop where
  n3 : N + 3 ≤ n
  b0 : H 0 = some (.cells [.ssl (encs c37 l) l.length false] 22)
  b1 : H 1 = some (.cells [.sc (.slice none 0 0)] 22)
  b2 : H 2 = some (.cells [.sc (.slice none 0 0)] 23)
  b3 : H 3 = some (.cells [.sc (.int .i64 0)] 26)
  b7 : H q7 = some (.cells [.own p 0] 119)
  bb : H (N + 1) = some (.cells [.own p 0] 119)
  by_ : H (N + 2) = some (.loop tB 54 #[27] A Bo .ready)
  wk : Wk H n p m o seen
  sn : Seen l seen
  il : i ≤ seen.length
  oo : ∀ j, o = some j → (q7 < j ∧ j < N) ∨ N + 3 ≤ j
  nodes : ∃ (nodes : List api_Node) (on : Option Nat), nodes.length = i ∧ H N = some (.cells [slv on nodes.length] 22) ∧ YtfflojbgikfbmaaW.Ah.Own H 37 c37 on nodes ∧ (∀ j, on = some j → N + 3 ≤ j ∧ j < n ∧ o ≠ some j) ∧ M.canonGo l (l.length + 1) 0 seen0 [] = M.canonGo l (l.length + 1 - i) i seen nodes

def Stop (l : List api_Node) (seen0 : List Int) (N : Nat) (tB : Nat → AV) (A Bo : Code) (H : Mem) (n : Nat) : Prop :=
  H (N + 2) = some (.loop tB 54 #[27] A Bo (.done .ret)) ∧ H 1 = some (.cells [.sc (.slice none 0 0)] 22) ∧ H 2 = some (.cells [.sc (.slice none 0 0)] 23) ∧ H 3 = some (.cells [.sc (.int .i64 19)] 26) ∧ M.canonGo l (l.length + 1) 0 seen0 [] = none

theorem canonB (l : List api_Node) (few : Few l) (out : List api_Edge) (seen0 : List Int) (sn : Seen l seen0) {p m q7 n : Nat} {o0 : Option Nat} {t : Nat → AV} {H : Mem} (wk : Wk H n p m o0 seen0)
    (t2 : t 2 = .own 0 0) (t4 : t 4 = .own 1 0) (t5 : t 5 = .own 2 0) (t6 : t 6 = .own 3 0) (t7 : t 7 = .own q7 0) (t8 : t 8 = .ssl (encs c31 out) out.length false)
    (b0 : H 0 = some (.cells [.ssl (encs c37 l) l.length false] 22)) (b1 : H 1 = some (.cells [.sc (.slice none 0 0)] 22)) (b2 : H 2 = some (.cells [.sc (.slice none 0 0)] 23)) (b3 : H 3 = some (.cells [.sc (.int .i64 0)] 26)) (b7 : H q7 = some (.cells [.own p 0] 119))
    (hp : 4 ≤ p) (hm : 4 ≤ m) (hpq : p < q7) (hmq : m < q7) (hq : q7 < n) (ho : ∀ i, o0 = some i → q7 < i) (C : Cont)
    (hr : ∀ t H n r1 ids, resOf T.T Try.f16.results.toList ⟨t, H, n⟩ = some r1 → Vw T.T H ids r1 (RV (match M.canonGo l (l.length + 1) 0 seen0 [] with | some nodes => (nodes, out, 0) | none => ([], [], 19))) → C .ret t H n) :
    Stk Try.prog T.T 54 (codes ((seqs body16).drop 5)) t H n C := by
  refine Stk.cut (l' := (seqs body16).drop 10) [_, _, _, _, _] rfl fun J hJ => ?_
  refine evS_sound (f := 9) ?_
  have hq7n : q7 ≠ n := by omega
  simp [codes, t7, b7, hq7n, partOf]
  refine Stk.callS 8 (all _ _ p) rfl rfl rfl (by simp) ?_
  rintro v H1 n1 ⟨rfl, hH1, rfl⟩
  simp
  iterate 3 (try (refine evS_sound (f := 3) ?_; simp))
  refine Stk.gen (fun t' H' n' => t' 2 = .own 0 0 ∧ t' 4 = .own 1 0 ∧ t' 5 = .own 2 0 ∧ t' 6 = .own 3 0 ∧ t' 7 = .own q7 0 ∧ t' 8 = .ssl (encs c31 out) out.length false ∧ t' 10 = .own n 0 ∧ t' 26 = .fn (.func 138) [] [.own (n + 1) 0] ∧ H' = H1 ∧ n' = n + 2) ⟨by simp [t2], by simp [t4], by simp [t5], by simp [t6], by simp [t7], by simp [t8], by simp, by simp, rfl, rfl⟩ ?_
  clear t2 t4 t5 t6 t7 t8 t
  rintro tB H0' n' ⟨t2, t4, t5, t6, t7, t8, t10, t26, rfl, rfl⟩
  have hk1 : ∀ j, j < n → H0' j = H j := fun j hj => by rw [hH1, upd_ne _ _ (by omega), upd_ne _ _ (by omega)]
  have hkn : H0' n = some (.cells [.sc (.slice none 0 0)] 22) := by rw [hH1, upd_ne _ _ (by omega), upd_same]
  have hkb : H0' (n + 1) = some (.cells [.own p 0] 119) := by rw [hH1, upd_same]
  clear hH1
  refine Stk.rangeX t26 fun A Bo hA hB => ?_
  have hlo := wk.lo
  refine ⟨_, allQ (b := n + 1) (p := p) (m := m) (y := n + 2) l.length (by have := few.len; omega) (Inv l out seen0 p m q7 n tB A Bo) (Stop l seen0 n tB A Bo) ?hi (seen := seen0) (o := o0) ?h0, ?fin⟩
  case h0 =>
    have hu : ∀ j v, j ≠ n + 2 → upd H0' (n + 2) v j = H0' j := fun j v hj => upd_ne _ _ hj
    refine ⟨by omega, by rw [hu _ _ (by omega), hk1 0 (by omega)]; exact b0, by rw [hu _ _ (by omega), hk1 1 (by omega)]; exact b1, by rw [hu _ _ (by omega), hk1 2 (by omega)]; exact b2, by rw [hu _ _ (by omega), hk1 3 (by omega)]; exact b3, by rw [hu _ _ (by omega), hk1 q7 (by omega)]; exact b7, by rw [hu _ _ (by omega)]; exact hkb, upd_same _ _ _,
      wk.of (by omega) (by rw [hu _ _ (by omega), hk1 p (by omega)]) (by rw [hu _ _ (by omega), hk1 m (by omega)]) (fun i hi => by have := hlo i hi; rw [hu _ _ (by omega), hk1 i (by omega)]), sn, Nat.zero_le _, fun j hj => .inl ⟨ho j hj, hlo j hj⟩, [], none, rfl, by rw [hu _ _ (by omega)]; exact hkn, rfl, (fun j e => by cases e), rfl⟩
  case fin =>
    rintro v H5 n5 (⟨seen, o, inv⟩ | stop)
    · refine .inl ⟨⟨_, _, _, _, _, inv.by_⟩, ?_⟩
      obtain ⟨nodes, on, hnl, hN, hown, hon, hgo⟩ := inv.nodes
      have hsl := inv.sn.len
      have hfuel : l.length + 1 - seen.length = (l.length - seen.length) + 1 := by omega
      have hfin : M.canonGo l (l.length + 1) 0 seen0 [] = some nodes := by
        rw [hgo, hfuel, M.canonGo, List.getElem?_eq_none (Nat.le_refl _)]
      rw [hfin] at hr
      have hN2 : (upd H5 (n + 2) none) n = some (.cells [slv on nodes.length] 22) := by rw [upd_ne _ _ (by omega)]; exact hN
      have h1' : (upd H5 (n + 2) none) 1 = some (.cells [.sc (.slice none 0 0)] 22) := by rw [upd_ne _ _ (by omega)]; exact inv.b1
      have h2' : (upd H5 (n + 2) none) 2 = some (.cells [.sc (.slice none 0 0)] 23) := by rw [upd_ne _ _ (by omega)]; exact inv.b2
      have h3' : (upd H5 (n + 2) none) 3 = some (.cells [.sc (.int .i64 0)] 26) := by rw [upd_ne _ _ (by omega)]; exact inv.b3
      have hown2 : YtfflojbgikfbmaaW.Ah.Own (upd H5 (n + 2) none) 37 c37 on nodes := hown.mono fun i hi => by have := hon i hi; rw [upd_ne _ _ (by omega)]
      obtain ⟨H6, hH6⟩ : ∃ H6 : Mem, H6 = upd H5 (n + 2) none := ⟨_, rfl⟩
      rw [← hH6] at hN2 h1' h2' h3' hown2 ⊢
      refine evS_sound (f := 3) ?_
      simp [t10, hN2]
      iterate 6 (try (refine evS_sound (f := 8) ?_; simp [t4, t5, t6, t8, t10, hN2, h1', h2', h3', partOf, splice]))
      refine hr _ _ _ (.tup [slv on nodes.length, .ssl (encs c31 out) out.length false, I 0]) on.toList (by simp [t4, t5, t6, partOf]) (.inr (.inr (.tup (.cons (view_own M.fr37 (hown2.mono fun i hi => ?_) (fun i hi => by rw [hi]; simp)) (.free (by simp [freeL, free, freeL_encs M.fr31]))))))
      have := hon i hi
      rw [upd_ne _ _ (by omega), upd_ne _ _ (by omega), upd_ne _ _ (by omega)]
    · obtain ⟨s1, s2, s3, s4, s5⟩ := stop
      refine .inr ⟨_, _, _, _, _, .ret, s1, ?_⟩
      refine Stk.rt ?_
      rw [s5] at hr
      exact hr _ _ _ (.tup [.sc (.slice none 0 0), .sc (.slice none 0 0), I 19]) [] (by simp [t4, t5, t6, s2, s3, s4, partOf, show ¬ n = 0 by omega, show ¬ n = 1 by omega]) (.inr (.inr (.tup (.cons .nilS (.cons .nilS (.free rfl))))))
  case hi =>
    intro i seen o H3 n3 inv
    refine ⟨inv.bb, inv.wk, inv.sn.len, inv.il, fun k hk => ⟨_, _, _, _, _, inv.by_, rfl, by rfl, ?_⟩⟩
    refine Round.walk fun C1 hC1 => ?_
    rw [hA]
    refine evS_sound (f := 99) ?_
    simp [fillT]
    refine hC1 _ _ _ ⟨_, _, _, _, _, inv.by_, fun C2 hC2 => ?_⟩
    obtain ⟨nodes, on, hnl, hN, hown, hon, hgo⟩ := inv.nodes
    have n3le := inv.n3
    have hil : i < seen.length := (List.getElem?_eq_some_iff.1 hk).1
    obtain ⟨k0, k1⟩ := inv.sn.lt k (List.mem_of_getElem? hk)
    obtain ⟨kk, rfl⟩ := Int.eq_ofNat_of_zero_le k0
    have hkl : kk < l.length := by omega
    have hkli : (kk : Int) < l.length := by omega
    obtain ⟨nd, hnd⟩ : ∃ nd, l[kk] = nd := ⟨_, rfl⟩
    have hgetl : l[kk]? = some nd := by rw [List.getElem?_eq_getElem hkl, hnd]
    obtain ⟨hkids, hkw, hby⟩ := few.kids nd (by rw [← hnd]; exact List.getElem_mem hkl)
    have hln : partOf T.T 37 (List.drop (kk * 5) (encs c37 l)) 0 = some (.agg (c37 nd)) := by rw [← hnd]; exact part_agg (e := c37) (z := 5) T.t37 rfl rfl l kk hkl
    rw [c37_eq] at hln
    refine Stk.gen (fun t' H' n' => t' 2 = .own 0 0 ∧ t' 4 = .own 1 0 ∧ t' 5 = .own 2 0 ∧ t' 6 = .own 3 0 ∧ t' 7 = .own q7 0 ∧ t' 10 = .own n 0 ∧ t' 11 = I kk ∧ H' = upd H3 (n + 2) (some (.loop tB 54 #[27] A Bo .busy)) ∧ n' = n3) ⟨by simp [t2], by simp [t4], by simp [t5], by simp [t6], by simp [t7], by simp [t10], by simp, rfl, rfl⟩ ?_
    rintro t' Hb n' ⟨u2, u4, u5, u6, u7, u10, u11, hHb, rfl⟩
    have hb : ∀ j, j ≠ n + 2 → Hb j = H3 j := fun j hj => by rw [hHb, upd_ne _ _ hj]
    have hby2 : Hb (n + 2) = some (.loop tB 54 #[27] A Bo .busy) := by rw [hHb, upd_same]
    clear hHb
    have e0 := (hb 0 (by omega)).trans inv.b0
    have e1 := (hb 1 (by omega)).trans inv.b1
    have e2 := (hb 2 (by omega)).trans inv.b2
    have e3 := (hb 3 (by omega)).trans inv.b3
    have e7 := (hb q7 (by omega)).trans inv.b7
    have eN := (hb n (by omega)).trans hN
    have wkb : Wk Hb n' p m o seen := inv.wk.of (Nat.le_refl _) (hb p (by omega)) (hb m (by omega)) (fun j hj => hb j (by rcases inv.oo j hj with h | h <;> omega))
    obtain ⟨Y, hY⟩ : ∃ Y : Mem, Y = upd (upd Hb n' (some (.cells [.sc (.int .i64 0), .sc (.int .i64 0), .sc (.int .i64 0), .sc (.slice none 0 0), .sc (.slice none 0 0)] 37))) n' (some (.cells [I nd.Head.Kind, I nd.Head.Tag, I nd.Head.Count, .ssl (encs M.c5 nd.Bytes) nd.Bytes.length false, .ssl (encs c31 nd.Kids) nd.Kids.length false] 37)) := ⟨_, rfl⟩
    have hYk : ∀ j, j < n' → Y j = Hb j := fun j hj => by rw [hY, upd_ne _ _ (by omega), upd_ne _ _ (by omega)]
    have yn : Y n' = some (.cells [I nd.Head.Kind, I nd.Head.Tag, I nd.Head.Count, .ssl (encs M.c5 nd.Bytes) nd.Bytes.length false, .ssl (encs c31 nd.Kids) nd.Kids.length false] 37) := by rw [hY, upd_same]
    have y0 := (hYk 0 (by omega)).trans e0
    have y7 := (hYk q7 (by omega)).trans e7
    rw [hB]
    refine evS_sound (f := 5) ?_
    simp [u2, u7, u11, e0, e7, hkl, hkli, hln, partOf]
    iterate 6 (try (refine evS_sound (f := 4) ?_; simp [u2, u7, u11, e0, e7, hkl, hkli, hln, splice, y0, y7, yn, ← hY]))
    have wkY : Wk Y (n' + 1) p m o seen := wkb.far (by omega) hYk
    have hsl := inv.sn.len
    have hfuel : l.length + 1 - i = (l.length - i) + 1 := by omega
    conv at hgo => rhs; rw [hfuel, M.canonGo, hk]
    simp only [Int.toNat_natCast, hgetl] at hgo
    have hoo : ∀ j, (j < 4 ∨ j = q7 ∨ (n ≤ j ∧ j < n + 3) ∨ j = n') → j ≠ p ∧ j ≠ m ∧ o ≠ some j := fun j hj => by
      have hlp := wkb.lp
      have hlm := wkb.lm
      refine ⟨by omega, by omega, fun e => ?_⟩
      have := wkb.lo j e
      rcases inv.oo j e with h | h <;> omega
    refine Stk.callS 4 (edges wkY l nd.Kids (by have := few.len; omega) hkids hkw inv.sn) rfl rfl rfl (by simp) ?_
    intro v H4 n4 hv
    unfold EdgesZ at hv
    cases hre : reachGo l nd.Kids [] seen with
    | none =>
      rw [hre] at hv hgo
      obtain ⟨rfl, hle4, hk4⟩ := hv
      have keep : ∀ j, j < n' → (j < 4 ∨ j = q7 ∨ (n ≤ j ∧ j < n + 3)) → H4 j = Hb j := fun j h1 h2 => by
        have := hoo j (by omega)
        rw [hk4 j (by omega) this.1 this.2.1 this.2.2, hYk j h1]
      have f1 := (keep 1 (by omega) (by omega)).trans e1
      have f2 := (keep 2 (by omega) (by omega)).trans e2
      have f3 := (keep 3 (by omega) (by omega)).trans e3
      have fy := (keep (n + 2) (by omega) (by omega)).trans hby2
      simp
      iterate 8 (try (refine evS_sound (f := 4) ?_; simp [u4, u5, u6, f1, f2, f3, splice, partOf]))
      refine hC2 _ _ _ _ ⟨_, _, _, _, _, by simp [show ¬ n = 0 by omega, show ¬ n = 1 by omega]; exact fy, ?_⟩
      rw [if_neg (by decide)]
      exact ⟨upd_same _ _ _, by simp [show ¬ n = 0 by omega, show ¬ n = 1 by omega], by simp [show ¬ n = 0 by omega, show ¬ n = 1 by omega], by simp [show ¬ n = 0 by omega, show ¬ n = 1 by omega], hgo⟩
    | some ks =>
      obtain ⟨kids, seen'⟩ := ks
      rw [hre] at hv hgo
      simp only at hv hgo
      obtain ⟨rfl, o4, ws⟩ := hv
      have sn' : Seen l seen' := M.Seen.reach _ _ _ inv.sn hre
      have hle4 := ws.le
      have keep : ∀ j, j < n' + 1 → (j < 4 ∨ j = q7 ∨ (n ≤ j ∧ j < n + 3) ∨ j = n') → H4 j = Y j := fun j h1 h2 => by
        have := hoo j h2
        exact ws.keep j h1 this.1 this.2.1 this.2.2
      have fN := ((keep n (by omega) (by omega)).trans (hYk n (by omega))).trans eN
      have fx := (keep n' (by omega) (by omega)).trans yn
      have hon4 : YtfflojbgikfbmaaW.Ah.Own H4 37 c37 on nodes := hown.mono fun j hj => by
        have h1 := hon j hj
        rw [ws.keep j (by omega) (by have := wkb.lp; omega) (by have := wkb.lm; omega) h1.2.2, hYk j h1.2.1, hb j (by omega)]
      obtain ⟨j9, H9, n9, e9, o9, le9, f9, l9, k9⟩ := moreN (n := n4) hon4 (fun j hj => by have := hon j hj; omega) (by have := few.len; omega) ⟨nd.Head, nd.Bytes, kids⟩
      simp only at e9
      have hcl : M.slices_Clone_byte_byte 0 nd.Bytes = some nd.Bytes := by
        unfold M.slices_Clone_byte_byte appM
        rw [if_pos (by unfold roomMax; simp; omega)]; rfl
      simp
      iterate 8 (try (refine evS_sound (f := 2) ?_; simp))
      refine Stk.regionD 9 [.rd [n], .rd [], .rd [n'], .rd [], .rd [n'], .rd [], .rd [], .rd [], .mem [] n4, .mem on.toList n4, .mem [n] n4] none (by kernel_rfl) (by rfl) rfl (by simp [below]; omega) rfl ?_
      simp [u10, fN, fx, partOf]
      refine Stk.callFD 9 (M.ok_slices_Clone_byte_byte 0 nd.Bytes nd.Bytes hcl) rfl rfl rfl rfl rfl (by simp) (by simp [freeL, free, freeL_encs M.fr5]) (by simp [freeL, free, freeL_encs M.fr5]) ?_
      have h9n : H9 n = some (.cells [slv on nodes.length] 22) := by rw [k9 n (by omega) (fun e => by have := hon n e; omega)]; exact fN
      simp [e9, h9n, u10, splice]
      have on9 : ∀ j, on = some j → n + 3 ≤ j ∧ j < n' ∧ o ≠ some j := hon
      have o49 : ∀ j, o4 = some j → ((q7 < j ∧ j < n) ∨ n + 3 ≤ j) ∧ on ≠ some j := fun j hj => by
        rcases ws.own j hj with h | h
        · exact ⟨inv.oo j h, fun e => (hon j e).2.2 h⟩
        · exact ⟨by omega, fun e => by have := hon j e; omega⟩
      refine ⟨fun j h1 h2 => absurd h2 (by omega), fun j h1 h2 => by rw [if_neg (by omega)]; exact k9 j h1 h2, fun j _ h1 h2 => absurd h2 h1, ?_⟩
      have fy : H9 (n + 2) = some (.loop tB 54 #[27] A Bo .busy) := by
        rw [k9 (n + 2) (by omega) (fun e => by have := hon _ e; omega), keep (n + 2) (by omega) (by omega), hYk (n + 2) (by omega)]; exact hby2
      refine hC2 _ _ _ _ ⟨_, _, _, _, _, by rw [upd_ne _ _ (by omega)]; exact fy, ?_⟩
      rw [if_pos (by decide)]
      have fz : ∀ (X L : Option Blk) (j : Nat), j < n' → (j < 4 ∨ j = q7 ∨ j = n + 1) → upd (upd H9 n X) (n + 2) L j = Hb j := fun X L j h1 h2 => by
        rw [upd_ne _ _ (by omega), upd_ne _ _ (by omega), k9 j (by omega) (fun e => by have := hon j e; omega), keep j (by omega) (by omega), hYk j h1]
      have hlp := wkb.lp
      have hlm := wkb.lm
      refine ⟨seen', o4, by omega, (fz _ _ 0 (by omega) (by omega)).trans e0, (fz _ _ 1 (by omega) (by omega)).trans e1, (fz _ _ 2 (by omega) (by omega)).trans e2, (fz _ _ 3 (by omega) (by omega)).trans e3, (fz _ _ q7 (by omega) (by omega)).trans e7, ((fz _ _ (n + 1) (by omega) (by omega)).trans (hb _ (by omega))).trans inv.bb, upd_same _ _ _, ?_, sn', ?_, fun j hj => (o49 j hj).1, ?_⟩
      · refine ws.st.of (by omega) ?_ ?_ (fun j hj => ?_)
        · rw [upd_ne _ _ (by omega), upd_ne _ _ (by omega), k9 p (by omega) (fun e => by have := hon p e; omega)]
        · rw [upd_ne _ _ (by omega), upd_ne _ _ (by omega), k9 m (by omega) (fun e => by have := hon m e; omega)]
        · have h1 := o49 j hj
          have h2 := ws.st.lo j hj
          rw [upd_ne _ _ (by omega), upd_ne _ _ (by omega), k9 j h2 h1.2]
      · have := M.reach_len _ _ _ hre
        simp only at this
        omega
      · refine ⟨nodes ++ [⟨nd.Head, nd.Bytes, kids⟩], some j9, by simp [hnl], ?_, ?_, fun j hj => ?_, ?_⟩
        · rw [upd_ne _ _ (by omega), upd_same]; simp
        · refine o9.mono fun j hj => ?_
          cases hj
          have : j9 ≠ n ∧ j9 ≠ n + 2 := by
            rcases f9 with f | f
            · have := hon _ f; omega
            · omega
          rw [upd_ne _ _ this.2, upd_ne _ _ this.1]
        · cases hj
          rcases f9 with f | f
          · have := hon _ f; exact ⟨by omega, l9, fun e => (o49 _ e).2 f⟩
          · exact ⟨by omega, l9, fun e => by have := ws.st.lo _ e; omega⟩
        · rw [hgo, show l.length + 1 - (i + 1) = l.length - i by omega]

theorem canonF (l : List api_Node) (x : List api_Edge) (few : Few l) (hx : x.length ≤ 60000) (hw : ∀ e ∈ x, W31 e) :
    RunF Try.prog T.T 16 [.ssl (encs c37 l) l.length false, .ssl (encs c31 x) x.length false] (RV (M.canonP l x)) := by
  refine RunF.partsZ (c := body16) Try.func16 (by rfl) rfl rfl rfl rfl fun C hr => ?_
  refine Stk.cut (l' := (seqs body16).drop 5) [_, _, _, _, _] rfl fun J hJ => ?_
  refine evS_sound (f := 9) ?_
  simp [codes]
  iterate 4 (try (refine evS_sound (f := 8) ?_; simp))
  refine Stk.callS 2 (begun _ _) rfl rfl rfl (by simp) ?_
  rintro v H1 n1 ⟨p, m, rfl, hp0, hm0, hc1, wk⟩
  have b0 := hc1.2 0 (by omega)
  have b1 := hc1.2 1 (by omega)
  have b2 := hc1.2 2 (by omega)
  have b3 := hc1.2 3 (by omega)
  simp at b0 b1 b2 b3
  have hlp := wk.lp
  have hlm := wk.lm
  obtain ⟨H2, hH2⟩ : ∃ H2 : Mem, H2 = upd (upd H1 n1 (some (.cells [.sc (.pointer none)] 119))) n1 (some (.cells [.own p 0] 119)) := ⟨_, rfl⟩
  have h2k : ∀ j, j < n1 → H2 j = H1 j := fun j hj => by rw [hH2, upd_ne _ _ (by omega), upd_ne _ _ (by omega)]
  have h27 : H2 n1 = some (.cells [.own p 0] 119) := by rw [hH2, upd_same]
  have c0 := (h2k 0 (by omega)).trans b0
  have c1 := (h2k 1 (by omega)).trans b1
  have c2 := (h2k 2 (by omega)).trans b2
  have c3 := (h2k 3 (by omega)).trans b3
  have wk2 : Wk H2 (n1 + 1) p m none [] := wk.far (by omega) h2k
  simp [← hH2]
  iterate 6 (try (refine evS_sound (f := 4) ?_; simp [← hH2, c0, h27, partOf]))
  refine Stk.callS 4 (edges wk2 l x (by have := few.len; omega) hx hw ⟨List.nodup_nil, fun k hk => by simp at hk⟩) rfl rfl rfl (by simp) ?_
  intro v H3 n3 hv
  unfold EdgesZ at hv
  have hcp : M.canonP l x = (match reachGo l x [] [] with | some (out, seen) => (match M.canonGo l (l.length + 1) 0 seen [] with | some nodes => (nodes, out, 0) | none => ([], [], 19)) | none => ([], [], 19)) := rfl
  rw [hcp] at hr
  cases hre : reachGo l x [] [] with
  | none =>
    rw [hre] at hv hr
    obtain ⟨rfl, hle, hk⟩ := hv
    have f1 := (hk 1 (by omega) (by omega) (by omega) (by simp)).trans c1
    have f2 := (hk 2 (by omega) (by omega) (by omega) (by simp)).trans c2
    have f3 := (hk 3 (by omega) (by omega) (by omega) (by simp)).trans c3
    simp
    iterate 8 (try (refine evS_sound (f := 4) ?_; simp [f1, f2, f3, splice, partOf]))
    exact hr _ _ _ (.tup [.sc (.slice none 0 0), .sc (.slice none 0 0), I 19]) [] (by simp [partOf]) (.inr (.inr (.tup (.cons .nilS (.cons .nilS (.free rfl))))))
  | some os =>
    obtain ⟨out, seen⟩ := os
    rw [hre] at hv hr
    simp only at hv hr
    obtain ⟨rfl, o, ws⟩ := hv
    have hle := ws.le
    have keep : ∀ j, j < n1 + 1 → j ≠ p → j ≠ m → H3 j = H2 j := fun j h1 h2 h3 => ws.keep j h1 h2 h3 (by simp)
    have sn : Seen l seen := M.Seen.reach _ _ _ ⟨List.nodup_nil, fun k hk => by simp at hk⟩ hre
    simp
    iterate 8 (try (refine evS_sound (f := 4) ?_; simp))
    refine hJ _ _ _ (canonB l few out seen sn (q7 := n1) ws.st (by simp) (by simp) (by simp) (by simp) (by simp) (by simp) ((keep 0 (by omega) (by omega) (by omega)).trans c0) ((keep 1 (by omega) (by omega) (by omega)).trans c1) ((keep 2 (by omega) (by omega) (by omega)).trans c2) ((keep 3 (by omega) (by omega) (by omega)).trans c3) ((keep n1 (by omega) (by omega) (by omega)).trans h27) (by omega) (by omega) (by omega) (by omega) (by omega) (fun i hi => ?_) C hr)
    rcases ws.own i hi with h | h
    · cases h
    · omega

end Go.Proofs.Ytfflojbgikfbmaa.Gra
