/-
  Edges renumbered.
-/
import Derived.Test.YtfflojbgikfbmaaGB
namespace Go.Proofs.Ytfflojbgikfbmaa.Gra
open Go.Proofs.YtfflojbgikfbmaaW.Ah
open M (api_Node api_Edge c3 c31 c37 Seen okB stepE reachGo findN)
set_option maxRecDepth 4000
set_option linter.unusedVariables false
set_option linter.unusedSimpArgs false
attribute [local simp] T.t2 T.t3 T.t4 T.t5 T.t22 T.t23 T.t26 T.t31 T.t34 T.t35 T.t37 T.t119 T.t138 T.t198 T.t200 Op.maxDepth List.range List.range.loop
attribute [-simp] appendAV cellsOf cellOk partOk
attribute [local simp] cellsOf_sc cellOk_sc partOk_sc cellsOf_own cellOk_own partOk_own cellsOf_osl cellOk_osl partOk_osl cellsOf_sh cellOk_sh partOk_sh cellsOf_ssl cellOk_ssl partOk_ssl cellsOf_esl cellOk_esl partOk_esl cellsOf_fn cellOk_fn partOk_fn cellsOf_omap cellOk_omap partOk_omap cellsOf_agg partOk_agg cellsOf_slv cellOk_slv partOk_slv

noncomputable def body77 : Code := Try.f77.body.getD .skip
theorem c31_eq (e : api_Edge) : c31 e = [B e.Is, I e.Node, I e.Num] := rfl

theorem RunQ.partsZ {f : FuncId} {fn : Func} {c : Code} {args : List AV} {H : Mem} {n : Nat} {Z : AV → Mem → Nat → Prop} (h1 : Try.prog.funcs[f]? = some fn) (h2 : fn.body = some c) (h3 : (fn.name == "runtime.NumGoroutine") = false) {k : Nat} (hk : fn.ntmps = k) (h4 : Nat.ble args.length k = true) {rs : List ResultVar} (hrs : fn.results.toList = rs)
    (h : ∀ C : Cont, (∀ t H n r1 r ids, resOf T.T rs ⟨t, H, n⟩ = some r1 → Vw T.T H ids r1 r → Z r (without H ids) n → C .ret t H n) → Stk Try.prog T.T k (codes (seqs c)) (initT args) H n C) : RunQ Try.prog T.T f args H n Z := by
  refine RunQ.z h1 h2 h3 hk h4 hrs fun C a => ?_
  have := Stk.seqs c [] (by rw [List.append_nil]; exact h C (fun t H n r1 r ids x y z => (a t H n r1 r ids x y z).1))
  exact this

theorem moreE {H : Mem} {n : Nat} {o : Option Nat} {xs : List api_Edge} (ho : YtfflojbgikfbmaaW.Ah.Own H 31 c31 o xs) (hn : ∀ i, o = some i → i < n) (hl : xs.length ≤ 65536) (x : api_Edge) :
    ∃ i H' n', appendAV T.T (upd H n (some (.cells [B x.Is, I x.Node, I x.Num] 31))) (n + 1) 23 (slv o xs.length) (.osl n 0 1 (some 1)) = some (.osl i 0 (xs.length + 1) none, H', n') ∧ YtfflojbgikfbmaaW.Ah.Own H' 31 c31 (some i) (xs ++ [x]) ∧ n ≤ n' ∧ (o = some i ∨ n ≤ i) ∧ i < n' ∧ (∀ j, j < n → o ≠ some j → H' j = H j) := by
  obtain ⟨o', H', n', e1, o1, le1, f1, k1⟩ := append_own (e := c31) (z := 3) T.t23 rfl T.t31 rfl (by decide) rfl (by decide) (H := upd H n (some (.cells [B x.Is, I x.Node, I x.Num] 31))) (n := n + 1) (o := o) (xs := xs)
    (ho.mono fun i hi => upd_ne _ _ (by have := hn i hi; omega)) (fun i hi => by have := hn i hi; omega) (y := .osl n 0 1 (some 1)) [x] (by simp [encs, c31_eq]) (by simp [encs, c31_eq]) (by simp [roomMax]; omega) (by simp [roomMax]; omega)
  cases o' with
  | none => simp [YtfflojbgikfbmaaW.Ah.Own] at o1
  | some i =>
    have := f1 i rfl
    refine ⟨i, H', n', by simpa using e1, o1, by omega, ?_, this.2, fun j hj hne => by rw [k1 j (by omega) hne, upd_ne _ _ (by omega)]⟩
    rcases this.1 with h | h
    · exact .inl h
    · exact .inr (by omega)

def W31 (e : api_Edge) : Prop := (-9223372036854775808 ≤ e.Num ∧ e.Num ≤ 9223372036854775807)
def EdgesZ (l : List api_Node) (es : List api_Edge) (H : Mem) (n p m : Nat) (o : Option Nat) (seen : List Int) (r : AV) (H' : Mem) (n' : Nat) : Prop :=
  match reachGo l es [] seen with
  | some (out, seen') => r = .tup [.ssl (encs c31 out) out.length false, B true] ∧ ∃ o', WStep H n p m o H' n' o' seen'
  | none => r = .tup [.sc (.slice none 0 0), B false] ∧ n ≤ n' ∧ ∀ j, j < n → j ≠ p → j ≠ m → o ≠ some j → H' j = H j

theorem view_own {α : Type} {e : α → List AV} {z : Nat} [hE : Enc e z] {T : Tab} {H : Mem} {ids : List Nat} (he : ∀ x, freeL (e x) = true) {ty : Nat} {o : Option Nat} {xs : List α} (ho : YtfflojbgikfbmaaW.Ah.Own H ty e o xs) (hi : ∀ i, o = some i → i ∈ ids) : View T H ids (slv o xs.length) (.ssl (encs e xs) xs.length false) := by
  cases o with
  | none => simp only [YtfflojbgikfbmaaW.Ah.Own] at ho; subst ho; exact .nilS
  | some i =>
    obtain ⟨ys, h⟩ := ho
    refine .oslF (encs e xs).length (hi i rfl) h ?_
    rw [List.drop_zero, List.take_left' rfl]
    exact .free (freeL_encs he xs)
theorem Wk.of {H H' : Mem} {n n' p m : Nat} {o : Option Nat} {seen : List Int} (s : Wk H n p m o seen) (hn : n ≤ n') (h1 : H' p = H p) (h2 : H' m = H m) (h3 : ∀ i, o = some i → H' i = H i) : Wk H' n' p m o seen :=
  ⟨by rw [h1, s.hp], by rw [h2, s.hm], s.ho.mono h3, by have := s.lp; omega, by have := s.lm; omega, fun i hi => by have := s.lo i hi; omega, s.pm, s.po⟩
theorem stepE_vis (sq : List Int) (Node Num : Int) : stepE sq ⟨true, Node, Num⟩ = (visS sq Node, ⟨true, visN sq Node, Num⟩) := by
  unfold stepE visS visN
  simp only [if_true]
  cases findN Node sq 0 <;> rfl

/-- One more edge is laid behind the others. -/
structure Laid (H : Mem) (n p m : Nat) (o : Option Nat) (l : List api_Node) (q : Nat) (out : List api_Edge) (H9 : Mem) (n9 : Nat) (oo : Option Nat) (j9 : Nat) (sq : List Int) : Prop where
  ws : WStep H n p m o H9 n9 oo sq
  lo : n ≤ j9 ∧ j9 < n9 ∧ oo ≠ some j9
theorem lay {H Y : Mem} {n n2 p m : Nat} {o oo ob : Option Nat} {sq : List Int} {l : List api_Node} {q : Nat} {out : List api_Edge} (ws : WStep H n p m o Y n2 oo sq) (hob : ∀ i, ob = some i → n ≤ i ∧ i < n2 ∧ oo ≠ some i) {H9 : Mem} {n9 j9 : Nat} (le9 : n2 ≤ n9) (f9 : ob = some j9 ∨ n2 ≤ j9) (l9 : j9 < n9) (k9 : ∀ j, j < n2 → ob ≠ some j → H9 j = Y j) (hlp : p < n) (hlm : m < n) (hlo : ∀ i, o = some i → i < n) :
    Laid H n p m o l q out H9 n9 oo j9 sq := by
  have hn := ws.le
  have nob : ∀ j, j < n → ob ≠ some j := fun j hj e => by have := (hob j e).1; omega
  refine ⟨⟨ws.st.of le9 (k9 p ws.st.lp (nob p hlp)) (k9 m ws.st.lm (nob m hlm)) (fun i hi => k9 i (ws.st.lo i hi) (fun e => (hob i e).2.2 hi)), by omega, fun j h1 h2 h3 h4 => by rw [k9 j (by omega) (nob j h1), ws.keep j h1 h2 h3 h4], ws.own⟩, ?_⟩
  rcases f9 with f | f
  · have := hob j9 f; exact ⟨this.1, l9, this.2.2⟩
  · exact ⟨by omega, l9, fun e => by have := ws.st.lo j9 e; omega⟩

theorem edges {H : Mem} {n p m : Nat} {o : Option Nat} {seen : List Int} (s : Wk H n p m o seen) (l : List api_Node) (es : List api_Edge) (hl : l.length ≤ 60000) (he : es.length ≤ 60000) (hw : ∀ e ∈ es, W31 e) (sn : Seen l seen) :
    RunQ Try.prog T.T 77 [.own p 0, .ssl (encs c37 l) l.length false, .ssl (encs c31 es) es.length false] H n (fun r H' n' => EdgesZ l es H n p m o seen r H' n') := by
  refine RunQ.partsZ (c := body77) Try.func77 (by rfl) rfl rfl rfl rfl fun C hr => ?_
  refine Stk.cut (l' := (seqs body77).drop 4) [_, _, _, _] rfl fun J hJ => ?_
  refine evS_sound (f := 9) ?_
  simp [codes]
  iterate 4 (try (refine evS_sound (f := 8) ?_; simp))
  refine Stk.loop 4 (fun μ t H2 n2 => ∃ (q : Nat) (out : List api_Edge) (sq : List Int) (oo ob : Option Nat), q ≤ es.length ∧ μ = es.length - q ∧ reachGo l es [] seen = reachGo l (es.drop q) out sq ∧ t 0 = .own p 0 ∧ t 1 = .ssl (encs c37 l) l.length false ∧ t 8 = slv ob out.length ∧ YtfflojbgikfbmaaW.Ah.Own H2 31 c31 ob out ∧ (∀ i, ob = some i → n ≤ i ∧ i < n2 ∧ oo ≠ some i)
      ∧ t 11 = .ssl (encs c31 es) es.length false ∧ t 12 = I es.length ∧ t 13 = I q ∧ WStep H n p m o H2 n2 oo sq ∧ Seen l sq ∧ out.length = q) es.length
    ⟨0, [], seen, o, none, Nat.zero_le _, rfl, by simp, by simp, by simp, by simp, rfl, (fun i e => by cases e), by simp, by simp, by simp, ⟨s, Nat.le_refl _, fun _ _ _ _ _ => rfl, fun i hi => .inl hi⟩, sn, rfl⟩ ?_
  rintro J2 hJ2 μ t H2 n2 ⟨q, out, sq, oo, ob, hq, rfl, hgo, t0, t1, t8, ho, hob, t11, t12, t13, ws, sn2, hol⟩
  by_cases hlt : q < es.length
  · have hlti : (q : Int) < es.length := by omega
    have hld : partOf T.T 31 (List.drop (q * 3) (encs c31 es)) 0 = some (.agg (c31 es[q])) := part_agg (e := c31) (z := 3) T.t31 rfl rfl es q hlt
    obtain ⟨e, hxe⟩ : ∃ e, es[q] = e := ⟨_, rfl⟩
    have hwe := hw es[q] (List.getElem_mem hlt)
    have hdrop : es.drop q = e :: es.drop (q + 1) := by rw [List.drop_eq_getElem_cons hlt, hxe]
    rw [hxe] at hld hwe
    rw [hdrop, reachGo] at hgo
    rw [c31_eq] at hld
    obtain ⟨Y, hY⟩ : ∃ Y : Mem, Y = upd (upd H2 n2 (some (.cells [.sc (.bool false), .sc (.int .i64 0), .sc (.int .i64 0)] 31))) n2 (some (.cells [B e.Is, I e.Node, I e.Num] 31)) := ⟨_, rfl⟩
    have hYk : ∀ j, j < n2 → Y j = H2 j := fun j hj => by rw [hY, upd_ne _ _ (by omega), upd_ne _ _ (by omega)]
    have yn : Y n2 = some (.cells [B e.Is, I e.Node, I e.Num] 31) := by rw [hY, upd_same]
    have hle := ws.le
    have wsY := ws.st.far (n' := n2 + 1) (by omega) hYk
    have hoY : YtfflojbgikfbmaaW.Ah.Own Y 31 c31 ob out := ho.mono fun i hi => hYk i (hob i hi).2.1
    have hlp := s.lp
    have hlm := s.lm
    have hlo := s.lo
    have wsY2 : WStep H n p m o Y (n2 + 1) oo sq := ⟨wsY, by omega, fun j a1 a2 a3 a4 => by rw [hYk j (by omega), ws.keep j a1 a2 a3 a4], ws.own⟩
    have hobY : ∀ i, ob = some i → n ≤ i ∧ i < n2 + 1 ∧ oo ≠ some i := fun i hi => by have := hob i hi; exact ⟨this.1, by omega, this.2.2⟩
    have err : M.okB l e = false → ∀ (t : Nat → AV) (H5 : Mem) (n5 : Nat), t 6 = .sc (.slice none 0 0) → t 7 = B false → n2 + 1 ≤ n5 → (∀ j, j < n2 → H5 j = H2 j) → C .ret t H5 n5 := by
      intro h1 t H5 n5 t6 t7 h2 h3
      refine hr _ _ _ (.tup [.sc (.slice none 0 0), B false]) (.tup [.sc (.slice none 0 0), B false]) [] (by simp [t6, t7]) (.inl rfl) ?_
      unfold EdgesZ
      rw [hgo, if_neg (by simp [h1])]
      exact ⟨rfl, by omega, fun j a1 a2 a3 a4 => by simp [without]; rw [h3 j (by omega), ws.keep j a1 a2 a3 a4]⟩
    obtain ⟨Is, Node, Num⟩ := e
    cases Is with
    | false =>
      simp only at hld yn hY hwe err
      simp [t11, t12, t13, hlt, hlti]
      iterate 8 (try (refine evS_sound (f := 4) ?_; simp [t0, t1, t8, t11, t12, t13, hlt, hlti, hld, yn, ← hY]))
      refine Stk.regionD 9 [.rd [], .rd [n2], .rd [], .rd [], .rd [], .rd [n2], .rd [], .rd [], .rd [n2], .rd [], .rd []] none (by kernel_rfl) (by rfl) rfl (by simp [below]) rfl ?_
      by_cases g1 : Node = 0
      · subst g1
        obtain ⟨b, hb1, hb2⟩ := M.wrap62 hwe.1 hwe.2
        simp [yn]
        refine Stk.callFD 9 (M.ok_word_Wrap 0 Num b hb1) rfl rfl rfl rfl rfl (by simp) rfl rfl ?_
        by_cases g2 : b = Num
        · have g2b : (b != Num) = false := by simp [g2]
          have hin := hb2.1 g2
          have hok : M.okB l ⟨false, 0, Num⟩ = true := by simp [M.okB]; omega
          simp [yn, g2, g2b]
          iterate 4 (try (refine evS_sound (f := 4) ?_; simp [yn]))
          obtain ⟨j9, H9, n9, e9, o9, le9, f9, l9, k9⟩ := moreE hoY (fun i hi => (hobY i hi).2.1) (by omega) ⟨false, 0, Num⟩
          simp only at e9
          have ld := lay (l := l) (q := q) (out := out) wsY2 hobY le9 f9 l9 k9 hlp hlm hlo
          have wq := wrap_succ q (by omega)
          simp [t8, yn, e9, wq, partOf]
          iterate 8 (try (refine evS_sound (f := 4) ?_; simp [t0, t1, t8, t11, t12, t13, yn, e9, wq, partOf]))
          exact ⟨es.length - (q + 1), by omega, hJ2 _ _ _ _ ⟨q + 1, out ++ [⟨false, 0, Num⟩], _, _, some j9, hlt, rfl, by rw [hgo, if_pos hok]; rfl, by simp [t0], by simp [t1], by simp, o9, (fun i hi => by cases hi; exact ld.lo), by simp [t11], by simp [t12], by simp [wq], ld.ws, sn2, by simp [hol]⟩⟩
        · have g2b : (b != Num) = true := by simp [g2]
          simp [yn, g2, g2b]
          iterate 4 (try (refine evS_sound (f := 4) ?_; simp))
          refine err ?_ _ _ _ (by simp) (by simp) (by omega) hYk
          have : ¬ (-4611686018427387904 ≤ Num ∧ Num < 4611686018427387904) := fun e => g2 (hb2.2 e)
          simp [M.okB]; omega
      · have g1b : (Node != 0) = true := by simp [g1]
        simp [yn, g1, g1b]
        iterate 4 (try (refine evS_sound (f := 4) ?_; simp))
        exact err (by simp [M.okB, g1]) _ _ _ (by simp) (by simp) (by omega) hYk
    | true =>
      simp only at hld yn hY hwe err
      simp [t11, t12, t13, hlt, hlti]
      iterate 6 (try (refine evS_sound (f := 4) ?_; simp [t0, t1, t8, t11, t12, t13, hlt, hlti, hld, yn, ← hY]))
      by_cases g1 : Num = 0
      · by_cases g2 : Node < 0
        · have g1b : (Num != 0) = false := by simp [g1]
          iterate 9 (try (refine evS_sound (f := 8) ?_; simp [t1, yn, g1, g1b, g2]))
          exact err (by simp [M.okB]; omega) _ _ _ (by simp) (by simp) (by omega) hYk
        · have g1b : (Num != 0) = false := by simp [g1]
          by_cases g3 : (l.length : Int) ≤ Node
          · iterate 9 (try (refine evS_sound (f := 8) ?_; simp [t1, yn, g1, g1b, g2, g3]))
            exact err (by simp [M.okB]; omega) _ _ _ (by simp) (by simp) (by omega) hYk
          · obtain ⟨k, hk⟩ := Int.eq_ofNat_of_zero_le (show 0 ≤ Node by omega)
            subst hk
            have hkl : k < l.length := by omega
            have hkli : (k : Int) < l.length := by omega
            have hln : partOf T.T 37 (List.drop (k * 5) (encs c37 l)) 0 = some (.agg (c37 l[k])) := part_agg (e := c37) (z := 5) T.t37 rfl rfl l k hkl
            have g2' : ¬ (k : Int) < 0 := g2
            have hokk : M.okB l ⟨true, k, Num⟩ = M.wholeB l[k] := by simp [M.okB, g1, hkl]
            iterate 8 (try (refine evS_sound (f := 4) ?_; simp [t1, yn, g1, g1b, g2', g3, hkl, hkli, hln]))
            refine Stk.callF 4 (M.ok_graph_whole 0 l[k] _ (M.whole_ok 0 l[k])) rfl rfl rfl (by simp) (by simp [freeL, free, M.fr37]) rfl ?_
            cases hwh : M.wholeB l[k] with
            | false =>
              simp
              iterate 6 (try (refine evS_sound (f := 4) ?_; simp))
              exact err (by rw [hokk, hwh]) _ _ _ (by simp) (by simp) (by omega) hYk
            | true =>
              have hok : M.okB l ⟨true, k, Num⟩ = true := by rw [hokk, hwh]
              simp
              iterate 8 (try (refine evS_sound (f := 4) ?_; simp [t0, yn]))
              refine Stk.callS 4 (visit wsY (by have := sn2.len; omega) k) rfl rfl rfl (by simp) ?_
              rintro v H3 n3 ⟨o3, rfl, ws3⟩
              have hn2p : n2 ≠ p := by have := ws.st.lp; omega
              have hn2m : n2 ≠ m := by have := ws.st.lm; omega
              have hn2o : oo ≠ some n2 := fun e => by have := ws.st.lo n2 e; omega
              have z3 : H3 n2 = some (.cells [B true, I k, I Num] 31) := by rw [ws3.keep n2 (by omega) hn2p hn2m hn2o]; exact yn
              obtain ⟨vn, hvn⟩ : ∃ vn, vn = visN sq k := ⟨_, rfl⟩
              have hst := stepE_vis sq k Num
              rw [← hvn] at hst
              rw [← hvn]
              obtain ⟨Z, hZ⟩ : ∃ Z : Mem, Z = upd H3 n2 (some (.cells [B true, I vn, I Num] 31)) := ⟨_, rfl⟩
              have zn : Z n2 = some (.cells [B true, I vn, I Num] 31) := by rw [hZ, upd_same]
              have zk : ∀ j, j ≠ n2 → Z j = H3 j := fun j hj => by rw [hZ, upd_ne _ _ hj]
              have g3' := ws3.le
              have ho3 : ∀ i, o3 = some i → i ≠ n2 := fun i e => by
                rcases ws3.own i e with h | h
                · exact fun e2 => hn2o (e2 ▸ h)
                · omega
              have wsZ : WStep H n p m o Z n3 o3 (visS sq k) := ⟨ws3.st.of (Nat.le_refl _) (zk p (Ne.symm hn2p)) (zk m (Ne.symm hn2m)) (fun i hi => zk i (ho3 i hi)), by omega, fun j a1 a2 a3 a4 => by
                  rw [zk j (by omega), ws3.keep j (by omega) a2 a3 (fun e => by rcases ws.own j e with h | h; exact a4 h; omega), hYk j (by omega), ws.keep j a1 a2 a3 a4], fun i hi => by
                  rcases ws3.own i hi with h | h
                  · exact ws.own i h
                  · exact .inr (by omega)⟩
              have hoZ : YtfflojbgikfbmaaW.Ah.Own Z 31 c31 ob out := ho.mono fun i hi => by
                have := hob i hi
                rw [zk i (by omega), ws3.keep i (by omega) (by omega) (by omega) this.2.2, hYk i this.2.1]
              have hobZ : ∀ i, ob = some i → n ≤ i ∧ i < n3 ∧ o3 ≠ some i := fun i hi => by
                have := hob i hi
                refine ⟨this.1, by omega, fun e => ?_⟩
                rcases ws3.own i e with h | h
                · exact this.2.2 h
                · omega
              simp [z3, splice, ← hZ]
              iterate 6 (try (refine evS_sound (f := 4) ?_; simp [z3, zn, splice, ← hZ]))
              obtain ⟨j9, H9, n9, e9, o9, le9, f9, l9, k9⟩ := moreE hoZ (fun i hi => (hobZ i hi).2.1) (by omega) ⟨true, vn, Num⟩
              simp only at e9
              have ld := lay (l := l) (q := q) (out := out) wsZ hobZ le9 f9 l9 k9 hlp hlm hlo
              have wq := wrap_succ q (by omega)
              simp [t8, zn, e9, wq, partOf]
              iterate 8 (try (refine evS_sound (f := 4) ?_; simp [t0, t1, t8, t11, t12, t13, zn, e9, wq, partOf]))
              exact ⟨es.length - (q + 1), by omega, hJ2 _ _ _ _ ⟨q + 1, out ++ [⟨true, vn, Num⟩], _, _, some j9, hlt, rfl, by rw [hgo, if_pos hok, hst], by simp [t0], by simp [t1], by simp, o9, (fun i hi => by cases hi; exact ld.lo), by simp [t11], by simp [t12], by simp [wq], ld.ws, by have := sn2.step hok; rw [hst] at this; exact this, by simp [hol]⟩⟩
      · have g1b : (Num != 0) = true := by simp [g1]
        iterate 9 (try (refine evS_sound (f := 8) ?_; simp [yn, g1, g1b]))
        exact err (by simp [M.okB, g1]) _ _ _ (by simp) (by simp) (by omega) hYk
  · have hqe : q = es.length := by omega
    subst hqe
    simp [t12, t13]
    iterate 6 (try (refine evS_sound (f := 4) ?_; simp [t8]))
    refine hJ _ _ _ ?_
    refine Stk.cut (l' := (seqs body77).drop 6) [_, _] rfl fun J3 hJ3 => ?_
    refine evS_sound (f := 9) ?_
    simp [codes, t8]
    rw [List.drop_length, reachGo] at hgo
    have hlp := s.lp
    have hlm := s.lm
    have hle := ws.le
    have nin : ∀ j, (j < n ∨ oo = some j) → j ∉ ob.toList := fun j hj hm => by
      rw [Option.mem_toList] at hm
      have := hob j hm
      rcases hj with h | h
      · omega
      · exact this.2.2 h
    refine hr _ _ _ (.tup [slv ob out.length, B true]) (.tup [.ssl (encs c31 out) out.length false, B true]) ob.toList (by simp) (.inr (.inr (.tup (.cons (view_own M.fr31 ho (fun i hi => by rw [hi]; simp)) (.free rfl))))) ?_
    unfold EdgesZ
    rw [hgo]
    refine ⟨rfl, oo, ⟨ws.st.of (Nat.le_refl _) (by simp [without, nin p (.inl hlp)]) (by simp [without, nin m (.inl hlm)]) (fun i hi => by simp [without, nin i (.inr hi)]), ws.le, fun j a1 a2 a3 a4 => by simp [without, nin j (.inl a1)]; exact ws.keep j a1 a2 a3 a4, ws.own⟩⟩
end Go.Proofs.Ytfflojbgikfbmaa.Gra
