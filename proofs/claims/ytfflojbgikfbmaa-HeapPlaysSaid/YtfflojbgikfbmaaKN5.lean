/-
  The law's same: one thing done with both heaps.
-/
import Derived.Test.YtfflojbgikfbmaaKN4
namespace Go.Proofs.Ytfflojbgikfbmaa.Hea
open Go.Proofs.YtfflojbgikfbmaaW.Ah
open Go.Proofs.Ytfflojbgikfbmaa.Sta (U Er eU wrap_nsub wrap_pred load_u)
set_option maxRecDepth 4000
set_option linter.unusedVariables false
set_option linter.unusedSimpArgs false
attribute [local simp] T.t3 T.t4 T.t5 T.t9 T.t26 T.t34 T.t35 T.t39 T.t40 T.t62 T.t63 T.t70 T.t93 T.t113 T.t144 T.t108 T.t176 Op.maxDepth List.range List.range.loop
attribute [-simp] appendAV cellsOf cellOk partOk
attribute [local simp] cellsOf_sc cellOk_sc partOk_sc cellsOf_own cellOk_own partOk_own cellsOf_osl cellOk_osl partOk_osl cellsOf_sh cellOk_sh partOk_sh cellsOf_ssl cellOk_ssl partOk_ssl cellsOf_esl cellOk_esl partOk_esl cellsOf_fn cellOk_fn partOk_fn cellsOf_omap cellOk_omap partOk_omap cellsOf_agg partOk_agg cellsOf_slv cellOk_slv partOk_slv

abbrev DoA (d : M.handloomlaw16_Do) : AV := .agg (M.c113 d)
structure DoOk (d : M.handloomlaw16_Do) : Prop where
  l : ∀ v ∈ d.L, In64 v
  len : d.L.length ≤ 9223372036854775807
  w : In64 d.W
def Same69 (H : Mem) (n p i : Nat) (c : Option Nat) (p' i' : Nat) (c' : Option Nat) (r : AV) (H' : Mem) (n' : Nat) : Prop :=
  r = B true ∧ n ≤ n' ∧ (∀ j, j < n → j ≠ p → j ≠ i → j ≠ p' → j ≠ i' → H' j = H j) ∧ ∃ h', Two H' n' p i c p' i' c' h'
theorem box113 (d : M.handloomlaw16_Do) : M.c113 d = [.sc (.int .u8 d.Kind), I d.X.Kind, I d.X.Tag, I d.X.Count, .ssl (encs eU d.L) d.L.length false, U d.W, I d.I] := rfl

theorem same0 {H : Mem} {n p i p' i' : Nat} {c c' : Option Nat} {h : Hp} (s : Two H n p i c p' i' c' h) (d : M.handloomlaw16_Do) (ok : DoOk d) (hk : d.Kind.tmod 6 = 0) :
    RunQ Try.prog T.T 69 [.own p 0, .own p' 0, DoA d] H n (fun r H' n' => Same69 H n p i c p' i' c' r H' n') := by
  obtain ⟨H1, hH1⟩ : ∃ H1 : Mem, H1 = upd H n (some (.cells [.sc (.int .u8 d.Kind), I d.X.Kind, I d.X.Tag, I d.X.Count, .ssl (encs eU d.L) d.L.length false, U d.W, I d.I] 113)) := ⟨_, rfl⟩
  have hc1 : Calm H n H1 (n + 1) := ⟨by omega, fun j hj => by rw [hH1, upd_ne _ _ (by omega)]⟩
  have s1 := s.far hc1.1 hc1.2
  have h1n : H1 n = some (.cells [.sc (.int .u8 d.Kind), I d.X.Kind, I d.X.Tag, I d.X.Count, .ssl (encs eU d.L) d.L.length false, U d.W, I d.I] 113) := by rw [hH1, upd_same]
  have lp := s.a.lp
  have li := s.a.li
  refine RunQ.ev 9 Try.func69 rfl rfl rfl rfl rfl fun C hr hn => ?_
  simp [box113, hk]
  rw [← hH1]
  iterate 4 (try (refine evS_sound (f := 8) ?_; simp [h1n, hk, partOf]))
  refine Stk.callS 8 (putX s1.a d.X.Kind d.X.Tag d.X.Count d.L false) rfl rfl rfl (by simp) ?_
  intro v H2 n2 hv
  by_cases hcond : Can d.X.Kind d.X.Tag d.X.Count ∧ d.L.length = body d.X.Kind d.X.Count ∧ size d.X.Kind d.X.Tag d.X.Count ≤ h.room
  · rw [if_pos hcond] at hv
    obtain ⟨rfl, st⟩ := hv
    have h2n : H2 n = some (.cells [.sc (.int .u8 d.Kind), I d.X.Kind, I d.X.Tag, I d.X.Count, .ssl (encs eU d.L) d.L.length false, U d.W, I d.I] 113) := by rw [st.keep n (by omega) (by omega) (by omega)]; exact h1n
    simp
    iterate 5 (try (refine evS_sound (f := 8) ?_; simp [h2n, partOf]))
    refine Stk.callS 8 (putRQ (s1.mid st) (d.X.Kind, d.X.Tag, d.X.Count) d.L ok.len) rfl rfl rfl (by simp) ?_
    intro v H3 n3 hv
    rw [if_pos hcond] at hv
    obtain ⟨rfl, st2⟩ := hv
    simp
    iterate 6 (try (refine evS_sound (f := 8) ?_; simp))
    have s3 := s1.on st st2 (in_putL s.wd (fun v hv => by
      rcases List.mem_cons.1 hv with e | hv
      · rw [e]; exact hv_in hcond.1
      rcases List.mem_cons.1 hv with e | hv
      · rw [e]; have := s.a.ok.to; have := s.a.ok.hi; have := h.begin_le; constructor <;> omega
      · exact ok.l v hv))
    have g1 := st.le
    have g2 := st2.le
    refine hr _ _ _ (B true) (by simp) ⟨rfl, by omega, fun j a1 a2 a3 a4 a5 => ?_, _, s3⟩
    rw [st2.keep j (by omega) a4 a5, st.keep j (by omega) a2 a3, hc1.2 j a1]
  · rw [if_neg hcond] at hv
    obtain ⟨rfl, hc2⟩ := hv
    have h2n : H2 n = some (.cells [.sc (.int .u8 d.Kind), I d.X.Kind, I d.X.Tag, I d.X.Count, .ssl (encs eU d.L) d.L.length false, U d.W, I d.I] 113) := by rw [hc2.2 n (by omega)]; exact h1n
    have s2 := s1.far hc2.1 hc2.2
    obtain ⟨er, her⟩ : ∃ er : Int, er = if Can d.X.Kind d.X.Tag d.X.Count ∧ d.L.length = body d.X.Kind d.X.Count then 21 else 19 := ⟨_, rfl⟩
    rw [← her]
    simp
    iterate 5 (try (refine evS_sound (f := 8) ?_; simp [h2n, partOf]))
    refine Stk.callS 8 (putRQ s2.b (d.X.Kind, d.X.Tag, d.X.Count) d.L ok.len) rfl rfl rfl (by simp) ?_
    intro v H3 n3 hv
    rw [if_neg hcond] at hv
    simp only at hv
    rw [← her] at hv
    obtain ⟨rfl, hc3⟩ := hv
    simp
    iterate 6 (try (refine evS_sound (f := 8) ?_; simp))
    have g1 := hc2.1
    have g2 := hc3.1
    refine hr _ _ _ (B true) (by simp) ⟨rfl, by omega, fun j a1 a2 a3 a4 a5 => ?_, _, s2.far hc3.1 hc3.2⟩
    rw [hc3.2 j (by omega), hc2.2 j (by omega), hc1.2 j a1]


theorem same1 {H : Mem} {n p i p' i' : Nat} {c c' : Option Nat} {h : Hp} (s : Two H n p i c p' i' c' h) (d : M.handloomlaw16_Do) (ok : DoOk d) (hk : d.Kind.tmod 6 = 1) :
    RunQ Try.prog T.T 69 [.own p 0, .own p' 0, DoA d] H n (fun r H' n' => Same69 H n p i c p' i' c' r H' n') := by
  obtain ⟨H1, hH1⟩ : ∃ H1 : Mem, H1 = upd H n (some (.cells [.sc (.int .u8 d.Kind), I d.X.Kind, I d.X.Tag, I d.X.Count, .ssl (encs eU d.L) d.L.length false, U d.W, I d.I] 113)) := ⟨_, rfl⟩
  have hc1 : Calm H n H1 (n + 1) := ⟨by omega, fun j hj => by rw [hH1, upd_ne _ _ (by omega)]⟩
  have s1 := s.far hc1.1 hc1.2
  have h1n : H1 n = some (.cells [.sc (.int .u8 d.Kind), I d.X.Kind, I d.X.Tag, I d.X.Count, .ssl (encs eU d.L) d.L.length false, U d.W, I d.I] 113) := by rw [hH1, upd_same]
  have lp := s.a.lp
  have li := s.a.li
  have lp' := s.b.lp
  have li' := s.b.li
  refine RunQ.ev 9 Try.func69 rfl rfl rfl rfl rfl fun C hr hn => ?_
  simp [box113, hk]
  rw [← hH1]
  iterate 8 (try (refine evS_sound (f := 8) ?_; simp [h1n, hk, partOf]))
  refine Stk.callS 8 (lookQ s1.a d.W) rfl rfl rfl (by simp) ?_
  rintro v H2 n2 ⟨rfl, hc2⟩
  have h2n : H2 n = some (.cells [.sc (.int .u8 d.Kind), I d.X.Kind, I d.X.Tag, I d.X.Count, .ssl (encs eU d.L) d.L.length false, U d.W, I d.I] 113) := by rw [hc2.2 n (by omega)]; exact h1n
  have s2 := s1.far hc2.1 hc2.2
  have hL := M.ok_R16_Heap_Look 0 (toR h) d.W _ (lookR 0 h s.a.ok s.wd d.W ok.w.1 ok.w.2)
  obtain ⟨x, er, e1, e2⟩ : ∃ (x : Int × Int × Int) (er : Int), lookV (h.recAt d.W) = .tup [hd x.1 x.2.1 x.2.2, I er] ∧ RunF Try.prog T.T 124 [.sh (M.c176 (toR h)), U d.W] (.tup [hd x.1 x.2.1 x.2.2, I er]) := by
    cases hrec : h.recAt d.W with
    | none => rw [hrec] at hL; exact ⟨(0, 0, 0), 22, rfl, hL⟩
    | some bx => rw [hrec] at hL; exact ⟨bx.2, 0, rfl, hL⟩
  rw [e1]
  simp
  iterate 6 (try (refine evS_sound (f := 8) ?_; simp [h2n, partOf, show n ≠ n2 by have := hc2.1; omega]))
  obtain ⟨H3, hH3⟩ : ∃ H3 : Mem, H3 = upd (upd H2 n2 (some (.cells [.sc (.int .i64 0), .sc (.int .i64 0), .sc (.int .i64 0)] 34))) n2 (some (.cells [I x.1, I x.2.1, I x.2.2] 34)) := ⟨_, rfl⟩
  have hc3 : Calm H2 n2 H3 (n2 + 1) := ⟨by omega, fun j hj => by rw [hH3, upd_ne _ _ (by omega), upd_ne _ _ (by omega)]⟩
  have s3 := s2.far hc3.1 hc3.2
  have h3x : H3 n2 = some (.cells [I x.1, I x.2.1, I x.2.2] 34) := by rw [hH3, upd_same]
  rw [← hH3]
  refine Stk.callB 8 [p', i'] e2 rfl rfl rfl (by simp) (.cons (viewR s3.b) (.free rfl)) rfl ?_
  simp
  iterate 6 (try (refine evS_sound (f := 8) ?_; simp [h3x, partOf, show ¬ n2 = n2 + 1 by omega]))
  have g1 := hc2.1
  refine hr _ _ _ (B true) (by simp) ⟨rfl, by omega, fun j a1 a2 a3 a4 a5 => ?_, _, (s3.far (n' := n2 + 1 + 1) (by omega) fun j hj => ?_)⟩
  · rw [upd_ne _ _ (by omega), upd_ne _ _ (by omega), hc3.2 j (by omega), hc2.2 j (by omega), hc1.2 j a1]
  · rw [upd_ne _ _ (by omega), upd_ne _ _ (by omega)]


def TextIs (H : Mem) (n n' : Nat) (y : AV) (a : List Int) : Prop := (y = .sc (.slice none 0 0) ∧ a = []) ∨ ∃ j, n ≤ j ∧ j < n' ∧ y = .osl j 0 a.length (some a.length) ∧ H j = some (.cells (encs eY a) 5)
theorem textBoth {H : Mem} {n p i p' i' : Nat} {c c' : Option Nat} {h : Hp} (s : Two H n p i c p' i' c' h) {w : Int} (hw : In64 w) :
    ∃ (a : List Int) (er : Int), RunQ Try.prog T.T 63 [.own p 0, U w] H n (fun r H' n' => ∃ y, r = .tup [y, I er] ∧ TextIs H' n n' y a ∧ Calm H n H' n') ∧
      ∀ H1 n1, Calm H n H1 n1 → RunQ Try.prog T.T 126 [.own p' 0, U w] H1 n1 (fun r H' n' => ∃ y, r = .tup [y, I er] ∧ TextIs H' n1 n' y a ∧ Calm H1 n1 H' n') := by
  by_cases h1 : ∃ b x, h.recAt w = some (b, x) ∧ x.1 = 1
  · obtain ⟨b, x, hrec, hx⟩ := h1
    obtain ⟨b1, b2, b3, hcan, _⟩ := recAt_le hrec
    have hsz := size_can hcan
    have hlen := s.a.ok.len
    have hl : ∀ l, (unps l x.2.2.toNat).length = x.2.2.toNat := fun l => by simp [unps]
    refine ⟨unps ((h.ws.drop (b + 2)).take (body x.1 x.2.2)) x.2.2.toNat, 0, ?_, fun H1 n1 hc => ?_⟩
    · obtain ⟨r, H', n', q1, j, q2, q3, q4, q5, q6⟩ := textQ s.a hrec hx (l := (h.ws.drop (b + 2)).take (body x.1 x.2.2)) rfl (by rw [List.length_take, List.length_drop]; omega)
      exact ⟨r, H', n', q1, _, q2, .inr ⟨j, q3, q4, by rw [hl], q5⟩, q6⟩
    · obtain ⟨r, H', n', q1, j, q2, q3, q4, q5, q6⟩ := textRY (s.b.far hc.1 hc.2) s.wd hw hrec hx (l := (h.ws.drop (b + 2)).take (body x.1 x.2.2)) rfl (by rw [List.length_take, List.length_drop]; omega)
      exact ⟨r, H', n', q1, _, q2, .inr ⟨j, q3, q4, by rw [hl], q5⟩, q6⟩
  · refine ⟨[], 22, ?_, fun H1 n1 hc => ?_⟩
    · obtain ⟨r, H', n', q1, q2, q3⟩ := textN s.a (w := w) (fun b x hrec e => h1 ⟨b, x, hrec, e⟩)
      exact ⟨r, H', n', q1, _, q2, .inl ⟨rfl, rfl⟩, q3⟩
    · obtain ⟨r, H', n', q1, q2, q3⟩ := textRN (s.b.far hc.1 hc.2) s.wd (w := w) hw (fun b x hrec e => h1 ⟨b, x, hrec, e⟩)
      exact ⟨r, H', n', q1, _, q2, .inl ⟨rfl, rfl⟩, q3⟩
theorem TextIs.view {H H' : Mem} {n n' : Nat} {y : AV} {a : List Int} (t : TextIs H n n' y a) {ids : List Nat} (hk : ∀ j, j < n' → H' j = H j) (hi : ∀ j, y = .osl j 0 a.length (some a.length) → j ∈ ids) : View T.T H' ids y (.ssl (encs eY a) a.length false) := by
  rcases t with ⟨rfl, rfl⟩ | ⟨j, j1, j2, rfl, hj⟩
  · exact .nilS
  · exact view_row (T := T.T) (e := eY) (fun _ => rfl) (by rw [hk j j2]; exact hj) (hi j rfl) _
def idOf : AV → List Nat
  | .osl j _ _ _ => [j]
  | _ => []

theorem same2 {H : Mem} {n p i p' i' : Nat} {c c' : Option Nat} {h : Hp} (s : Two H n p i c p' i' c' h) (d : M.handloomlaw16_Do) (ok : DoOk d) (hk : d.Kind.tmod 6 = 2) :
    RunQ Try.prog T.T 69 [.own p 0, .own p' 0, DoA d] H n (fun r H' n' => Same69 H n p i c p' i' c' r H' n') := by
  obtain ⟨H1, hH1⟩ : ∃ H1 : Mem, H1 = upd H n (some (.cells [.sc (.int .u8 d.Kind), I d.X.Kind, I d.X.Tag, I d.X.Count, .ssl (encs eU d.L) d.L.length false, U d.W, I d.I] 113)) := ⟨_, rfl⟩
  have hc1 : Calm H n H1 (n + 1) := ⟨by omega, fun j hj => by rw [hH1, upd_ne _ _ (by omega)]⟩
  have s1 := s.far hc1.1 hc1.2
  have h1n : H1 n = some (.cells [.sc (.int .u8 d.Kind), I d.X.Kind, I d.X.Tag, I d.X.Count, .ssl (encs eU d.L) d.L.length false, U d.W, I d.I] 113) := by rw [hH1, upd_same]
  have lp := s.a.lp
  have li := s.a.li
  have lp' := s.b.lp
  have li' := s.b.li
  refine RunQ.ev 9 Try.func69 rfl rfl rfl rfl rfl fun C hr hn => ?_
  simp [box113, hk]
  rw [← hH1]
  iterate 8 (try (refine evS_sound (f := 8) ?_; simp [h1n, hk, partOf]))
  refine Stk.callS 8 (fieldQ s1.a d.W d.I) rfl rfl rfl (by simp) ?_
  rintro v H2 n2 ⟨rfl, hc2⟩
  have h2n : H2 n = some (.cells [.sc (.int .u8 d.Kind), I d.X.Kind, I d.X.Tag, I d.X.Count, .ssl (encs eU d.L) d.L.length false, U d.W, I d.I] 113) := by rw [hc2.2 n (by omega)]; exact h1n
  have s2 := s1.far hc2.1 hc2.2
  have hF := M.ok_R16_Heap_Field 0 (toR h) d.W d.I _ (fieldR16 0 h s.a.ok s.wd d.W d.I ok.w)
  rw [fieldV_eq]
  obtain ⟨fv, hfv⟩ : ∃ fv, fv = fieldP h d.I (h.recAt d.W) := ⟨_, rfl⟩
  rw [← hfv] at hF ⊢
  obtain ⟨fa, fe⟩ := fv
  simp
  iterate 6 (try (refine evS_sound (f := 8) ?_; simp [h2n, partOf]))
  refine Stk.callB 8 [p', i'] hF rfl rfl rfl (by simp) (.cons (viewR s2.b) (.free rfl)) rfl ?_
  simp
  iterate 6 (try (refine evS_sound (f := 8) ?_; simp [h2n, partOf]))
  obtain ⟨a, er, tq, tr⟩ := textBoth s2 ok.w
  refine Stk.callS 8 tq rfl rfl rfl (by simp) ?_
  rintro v H3 n3 ⟨y, rfl, hy, hc3⟩
  have h3n : H3 n = some (.cells [.sc (.int .u8 d.Kind), I d.X.Kind, I d.X.Tag, I d.X.Count, .ssl (encs eU d.L) d.L.length false, U d.W, I d.I] 113) := by rw [hc3.2 n (by have := hc2.1; omega)]; exact h2n
  have s3 := s2.far hc3.1 hc3.2
  simp
  iterate 6 (try (refine evS_sound (f := 8) ?_; simp [h3n, partOf]))
  refine Stk.callS 8 (tr H3 n3 hc3) rfl rfl rfl (by simp) ?_
  rintro v H5 n5 ⟨z, rfl, hz, hc5⟩
  have g5 := hc5.1
  have h5n : H5 n = some (.cells [.sc (.int .u8 d.Kind), I d.X.Kind, I d.X.Tag, I d.X.Count, .ssl (encs eU d.L) d.L.length false, U d.W, I d.I] 113) := by rw [hc5.2 n (by have := hc2.1; have := hc3.1; omega)]; exact h3n
  have s5 := s3.far hc5.1 hc5.2
  simp
  iterate 6 (try (refine evS_sound (f := 8) ?_; simp [h5n, partOf]))
  refine Stk.callS 8 (whereQ s5.a d.W) rfl rfl rfl (by simp) ?_
  rintro v H4 n4 ⟨rfl, hc4⟩
  have h4n : H4 n = some (.cells [.sc (.int .u8 d.Kind), I d.X.Kind, I d.X.Tag, I d.X.Count, .ssl (encs eU d.L) d.L.length false, U d.W, I d.I] 113) := by rw [hc4.2 n (by have := hc2.1; have := hc3.1; omega)]; exact h5n
  have s4 := s5.far hc4.1 hc4.2
  have hL := M.ok_R16_Heap_Where 0 (toR h) d.W _ (whereR 0 h s.a.ok s.wd d.W ok.w.1 ok.w.2)
  obtain ⟨wv, we, e1, e2⟩ : ∃ (wv : Int) (we : Int), whereV (h.recAt d.W) = .tup [I wv, I we] ∧ RunF Try.prog T.T 128 [.sh (M.c176 (toR h)), U d.W] (.tup [I wv, I we]) := by
    cases hrec : h.recAt d.W with
    | none => rw [hrec] at hL; exact ⟨0, 22, rfl, hL⟩
    | some bx => rw [hrec] at hL; exact ⟨bx.1, 0, rfl, hL⟩
  rw [e1]
  simp
  iterate 6 (try (refine evS_sound (f := 8) ?_; simp [h4n, partOf]))
  refine Stk.callB 8 [p', i'] e2 rfl rfl rfl (by simp) (.cons (viewR s4.b) (.free rfl)) rfl ?_
  simp
  iterate 8 (try (refine evS_sound (f := 8) ?_; simp [h4n, partOf]))
  have hV1 : View T.T H4 (idOf y ++ idOf z) y (.ssl (encs eY a) a.length false) := hy.view (fun j hj => by rw [hc4.2 j (by omega), hc5.2 j hj]) (fun j e => by rw [e]; simp [idOf])
  have hV2 : View T.T H4 (idOf y ++ idOf z) z (.ssl (encs eY a) a.length false) := hz.view (fun j hj => by rw [hc4.2 j hj]) (fun j e => by rw [e]; simp [idOf])
  refine Stk.callB 8 (idOf y ++ idOf z) (bytesF a false false) rfl rfl rfl (by simp) (.cons hV1 (.cons hV2 .nil)) rfl ?_
  simp
  iterate 8 (try (refine evS_sound (f := 8) ?_; simp [h4n, partOf]))
  have g1 := hc2.1
  have g2 := hc3.1
  have g3 := hc4.1
  refine hr _ _ _ (B true) (by simp) ⟨rfl, by omega, fun j a1 a2 a3 a4 a5 => ?_, _, s4⟩
  rw [hc4.2 j (by omega), hc5.2 j (by omega), hc3.2 j (by omega), hc2.2 j (by omega), hc1.2 j a1]
end Go.Proofs.Ytfflojbgikfbmaa.Hea

/-
  The law's same: Set, Turn, Move with both heaps.
-/
namespace Go.Proofs.Ytfflojbgikfbmaa.Hea
open Go.Proofs.YtfflojbgikfbmaaW.Ah
open Go.Proofs.Ytfflojbgikfbmaa.Sta (U Er eU wrap_nsub wrap_pred load_u)
set_option maxRecDepth 4000
set_option linter.unusedVariables false
set_option linter.unusedSimpArgs false
attribute [local simp] T.t3 T.t4 T.t5 T.t9 T.t26 T.t34 T.t35 T.t39 T.t40 T.t62 T.t63 T.t70 T.t93 T.t113 T.t144 T.t108 T.t176 Op.maxDepth List.range List.range.loop
attribute [-simp] appendAV cellsOf cellOk partOk
attribute [local simp] cellsOf_sc cellOk_sc partOk_sc cellsOf_own cellOk_own partOk_own cellsOf_osl cellOk_osl partOk_osl cellsOf_sh cellOk_sh partOk_sh cellsOf_ssl cellOk_ssl partOk_ssl cellsOf_esl cellOk_esl partOk_esl cellsOf_fn cellOk_fn partOk_fn cellsOf_omap cellOk_omap partOk_omap cellsOf_agg partOk_agg cellsOf_slv cellOk_slv partOk_slv

theorem reads_ok {p i p' i' : Nat} {cl : List Cls} (R : List Nat) (hn : ∀ r ∈ R, r ≠ p ∧ r ≠ i ∧ r ≠ p' ∧ r ≠ i') (hcl : ∀ c ∈ cl, ∀ S b, c = .mem S b → S = [p, i] ∨ S = [p', i']) : ∀ c ∈ cl, ∀ S b, c = .mem S b → ∀ r ∈ R, r ∉ S := by
  intro c hc S b e r hr
  obtain ⟨h1, h2, h3, h4⟩ := hn r hr
  rcases hcl c hc S b e with h | h <;> subst h <;> simp [h1, h2, h3, h4]

theorem same3 {H : Mem} {n p i p' i' : Nat} {c c' : Option Nat} {h : Hp} (s : Two H n p i c p' i' c' h) (d : M.handloomlaw16_Do) (ok : DoOk d) (hk : d.Kind.tmod 6 = 3) :
    RunQ Try.prog T.T 69 [.own p 0, .own p' 0, DoA d] H n (fun r H' n' => Same69 H n p i c p' i' c' r H' n') := by
  obtain ⟨H1, hH1⟩ : ∃ H1 : Mem, H1 = upd H n (some (.cells [.sc (.int .u8 d.Kind), I d.X.Kind, I d.X.Tag, I d.X.Count, .ssl (encs eU d.L) d.L.length false, U d.W, I d.I] 113)) := ⟨_, rfl⟩
  have hc1 : Calm H n H1 (n + 1) := ⟨by omega, fun j hj => by rw [hH1, upd_ne _ _ (by omega)]⟩
  have s1 := s.far hc1.1 hc1.2
  have h1n : H1 n = some (.cells [.sc (.int .u8 d.Kind), I d.X.Kind, I d.X.Tag, I d.X.Count, .ssl (encs eU d.L) d.L.length false, U d.W, I d.I] 113) := by rw [hH1, upd_same]
  have lp := s.a.lp
  have li := s.a.li
  have lp' := s.b.lp
  have li' := s.b.li
  refine RunQ.ev 9 Try.func69 rfl rfl rfl rfl rfl fun C hr hn => ?_
  simp [box113, hk]
  rw [← hH1]
  iterate 9 (try (refine evS_sound (f := 4) ?_; simp [h1n, hk, partOf]))
  have hr1 : ∀ r ∈ [n], r ≠ p ∧ r ≠ i ∧ r ≠ p' ∧ r ≠ i' := fun r hr => by simp at hr; subst hr; exact ⟨by omega, by omega, by omega, by omega⟩
  have hm : ∀ X Y Z W : Cls, (∀ c ∈ [X, Y, Z, W], ∃ R, c = .rd R) → ∀ c ∈ ([.rd [], .rd [], X, .rd [], Y, .mem [p, i] (n + 1), .rd [], .rd [], Z, .rd [], W, .mem [p', i'] (n + 1), .rd [], .rd []] : List Cls), ∀ S b, c = .mem S b → S = [p, i] ∨ S = [p', i'] := by
    intro X Y Z W h c hc S b e
    subst e
    simp only [List.mem_cons, reduceCtorEq, false_or, or_false, List.not_mem_nil, Cls.mem.injEq] at hc
    have hx : ∀ V, V ∈ [X, Y, Z, W] → Cls.mem S b = V → False := fun V hV e => by obtain ⟨R, hR⟩ := h V hV; rw [hR] at e; cases e
    rcases hc with h | h | h | h | h | h
    · exact (hx X (by simp) h).elim
    · exact (hx Y (by simp) h).elim
    · exact .inl h.1
    · exact (hx Z (by simp) h).elim
    · exact (hx W (by simp) h).elim
    · exact .inr h.1
  refine Stk.regionD 99 [.rd [], .rd [], .rd [n], .rd [], .rd [n], .mem [p, i] (n + 1), .rd [], .rd [], .rd [n], .rd [], .rd [n], .mem [p', i'] (n + 1), .rd [], .rd []] none (by kernel_rfl)
    (drawOk2_read [.rd [], .rd [], .rd [n], .rd [], .rd [n], .mem [p, i] (n + 1), .rd [], .rd [], .rd [n], .rd [], .rd [], .mem [p', i'] (n + 1), .rd [], .rd []] 10 [n] (reads_ok [n] hr1 (hm _ _ _ _ (by simp))) rfl
      (drawOk2_read [.rd [], .rd [], .rd [n], .rd [], .rd [n], .mem [p, i] (n + 1), .rd [], .rd [], .rd [], .rd [], .rd [], .mem [p', i'] (n + 1), .rd [], .rd []] 8 [n] (reads_ok [n] hr1 (hm _ _ _ _ (by simp))) rfl
        (drawOk2_read [.rd [], .rd [], .rd [n], .rd [], .rd [], .mem [p, i] (n + 1), .rd [], .rd [], .rd [], .rd [], .rd [], .mem [p', i'] (n + 1), .rd [], .rd []] 4 [n] (reads_ok [n] hr1 (hm _ _ _ _ (by simp))) rfl
          (drawOk2_read [.rd [], .rd [], .rd [], .rd [], .rd [], .mem [p, i] (n + 1), .rd [], .rd [], .rd [], .rd [], .rd [], .mem [p', i'] (n + 1), .rd [], .rd []] 2 [n] (reads_ok [n] hr1 (hm _ _ _ _ (by simp))) rfl (by rfl))))) rfl (by simp [below]) rfl ?_
  simp [h1n, partOf]
  refine Stk.callSD 8 rfl ?_ (setQ s1.a d.W d.I 7) rfl rfl rfl rfl (by simp) ?_
  · rintro v H' n' ⟨_, st⟩ j hj hj2
    simp at hj2
    exact st.keep j hj hj2.1 hj2.2
  rintro v H2 n2 ⟨rfl, st⟩
  have h2n : H2 n = some (.cells [.sc (.int .u8 d.Kind), I d.X.Kind, I d.X.Tag, I d.X.Count, .ssl (encs eU d.L) d.L.length false, U d.W, I d.I] 113) := by rw [st.keep n (by omega) (by omega) (by omega)]; exact h1n
  have hlen := s.a.ok.len
  have hhi := s.a.ok.hi
  have hf := fieldR 0 h s.a.ok s.wd d.W d.I ok.w.1 ok.w.2
  obtain ⟨e, h', a, e1, e2, e3, e4, e5⟩ : ∃ (e : Int) (h' : Hp) (a : Int), setV h d.I (h.recAt d.W) = e ∧ M.R16_Heap_field 0 (toR h) d.W d.I = some (a, e) ∧ (e = 0 → 0 ≤ a ∧ a < h.ws.length) ∧ (match h.recAt d.W with | some (b, x) => if x.1 = 0 ∧ 0 ≤ d.I ∧ d.I < x.2.2 then ⟨h.ws.set (b + 2 + d.I.toNat) 7, h.half, h.up, h.next, h.on, h.scan⟩ else h | none => h) = h' ∧ ((if e = 0 then ⟨h.ws.set a.toNat 7, h.half, h.up, h.next, h.on, h.scan⟩ else h) = h' ∧ Wd h') := by
    cases hrec : h.recAt d.W with
    | none => rw [hrec] at hf; exact ⟨22, h, 0, rfl, hf, fun e => by omega, rfl, rfl, s.wd⟩
    | some bx =>
      obtain ⟨b, x⟩ := bx
      rw [hrec] at hf
      simp only at hf
      by_cases g1 : x.1 = 0
      · by_cases g2 : 0 ≤ d.I ∧ d.I < x.2.2
        · have hl := field_lt hrec g1 g2.1 g2.2 hlen
          rw [if_pos g1, if_pos g2] at hf
          refine ⟨0, ⟨h.ws.set (b + 2 + d.I.toNat) 7, h.half, h.up, h.next, h.on, h.scan⟩, _, by simp only [setV, if_pos g1, if_pos g2], hf, fun _ => by omega, if_pos ⟨g1, g2.1, g2.2⟩, ?_, s.wd.set _ (by decide)⟩
          rw [if_pos rfl, show ((b : Int) + 2 + d.I).toNat = b + 2 + d.I.toNat by omega]
        · rw [if_pos g1, if_neg g2] at hf
          exact ⟨20, h, 0, by simp only [setV, if_pos g1, if_neg g2], hf, fun e => by omega, if_neg (fun e => g2 e.2), rfl, s.wd⟩
      · rw [if_neg g1] at hf
        exact ⟨22, h, 0, by simp only [setV, if_neg g1], hf, fun e => by omega, if_neg (fun e => g1 e.1), rfl, s.wd⟩
  have st : Step H1 (n + 1) p i c H2 n2 h' := by rw [← e4]; exact st
  rw [e1]
  simp [h2n, partOf]
  iterate 8 (try (refine evS_sound (f := 8) ?_; simp [h2n, partOf]))
  have hq := setR (s1.mid st) d.W d.I 7 (F := 0) (a := a) (e := e) e2 e3
  rw [e5.1] at hq
  refine Stk.callSD 8 rfl ?_ hq rfl rfl rfl rfl (by simp) ?_
  · rintro v H' n' ⟨_, st2⟩ j hj hj2
    simp at hj2
    exact st2.keep j (by have := st.le; omega) hj2.1 hj2.2
  rintro v H3 n3 ⟨rfl, st2⟩
  simp
  iterate 4 (try (refine evS_sound (f := 8) ?_; simp))
  have g1 := st.le
  have g2 := st2.le
  refine hr _ _ _ (B true) (by simp) ⟨rfl, by omega, fun j a1 a2 a3 a4 a5 => ?_, _, s1.on st st2 e5.2⟩
  rw [st2.keep j (by omega) a4 a5, st.keep j (by omega) a2 a3, hc1.2 j a1]

theorem same4 {H : Mem} {n p i p' i' : Nat} {c c' : Option Nat} {h : Hp} (s : Two H n p i c p' i' c' h) (d : M.handloomlaw16_Do) (ok : DoOk d) (hk : d.Kind.tmod 6 = 4) :
    RunQ Try.prog T.T 69 [.own p 0, .own p' 0, DoA d] H n (fun r H' n' => Same69 H n p i c p' i' c' r H' n') := by
  obtain ⟨H1, hH1⟩ : ∃ H1 : Mem, H1 = upd H n (some (.cells [.sc (.int .u8 d.Kind), I d.X.Kind, I d.X.Tag, I d.X.Count, .ssl (encs eU d.L) d.L.length false, U d.W, I d.I] 113)) := ⟨_, rfl⟩
  have hc1 : Calm H n H1 (n + 1) := ⟨by omega, fun j hj => by rw [hH1, upd_ne _ _ (by omega)]⟩
  have s1 := s.far hc1.1 hc1.2
  have h1n : H1 n = some (.cells [.sc (.int .u8 d.Kind), I d.X.Kind, I d.X.Tag, I d.X.Count, .ssl (encs eU d.L) d.L.length false, U d.W, I d.I] 113) := by rw [hH1, upd_same]
  have lp := s.a.lp
  have li := s.a.li
  have lp' := s.b.lp
  have li' := s.b.li
  refine RunQ.ev 9 Try.func69 rfl rfl rfl rfl rfl fun C hr hn => ?_
  simp [box113, hk]
  rw [← hH1]
  iterate 8 (try (refine evS_sound (f := 8) ?_; simp [h1n, hk, partOf]))
  refine Stk.callS 8 (turn s1.a) rfl rfl rfl (by simp) ?_
  rintro v H2 n2 ⟨rfl, st⟩
  have h2n : H2 n = some (.cells [.sc (.int .u8 d.Kind), I d.X.Kind, I d.X.Tag, I d.X.Count, .ssl (encs eU d.L) d.L.length false, U d.W, I d.I] 113) := by rw [st.keep n (by omega) (by omega) (by omega)]; exact h1n
  simp
  iterate 8 (try (refine evS_sound (f := 8) ?_; simp [h2n, partOf]))
  refine Stk.callS 8 (turnR (s1.mid st)) rfl rfl rfl (by simp) ?_
  rintro v H3 n3 ⟨rfl, st2⟩
  simp
  iterate 8 (try (refine evS_sound (f := 8) ?_; simp [partOf]))
  have g1 := st.le
  have g2 := st2.le
  refine hr _ _ _ (B true) (by simp) ⟨rfl, by omega, fun j a1 a2 a3 a4 a5 => ?_, _, s1.on st st2 s.wd⟩
  rw [st2.keep j (by omega) a4 a5, st.keep j (by omega) a2 a3, hc1.2 j a1]

theorem same5 {H : Mem} {n p i p' i' : Nat} {c c' : Option Nat} {h : Hp} (s : Two H n p i c p' i' c' h) (d : M.handloomlaw16_Do) (ok : DoOk d) (hk : d.Kind.tmod 6 = 5) :
    RunQ Try.prog T.T 69 [.own p 0, .own p' 0, DoA d] H n (fun r H' n' => Same69 H n p i c p' i' c' r H' n') := by
  obtain ⟨H1, hH1⟩ : ∃ H1 : Mem, H1 = upd H n (some (.cells [.sc (.int .u8 d.Kind), I d.X.Kind, I d.X.Tag, I d.X.Count, .ssl (encs eU d.L) d.L.length false, U d.W, I d.I] 113)) := ⟨_, rfl⟩
  have hc1 : Calm H n H1 (n + 1) := ⟨by omega, fun j hj => by rw [hH1, upd_ne _ _ (by omega)]⟩
  have s1 := s.far hc1.1 hc1.2
  have h1n : H1 n = some (.cells [.sc (.int .u8 d.Kind), I d.X.Kind, I d.X.Tag, I d.X.Count, .ssl (encs eU d.L) d.L.length false, U d.W, I d.I] 113) := by rw [hH1, upd_same]
  have lp := s.a.lp
  have li := s.a.li
  have lp' := s.b.lp
  have li' := s.b.li
  refine RunQ.ev 9 Try.func69 rfl rfl rfl rfl rfl fun C hr hn => ?_
  simp [box113, hk]
  rw [← hH1]
  iterate 8 (try (refine evS_sound (f := 8) ?_; simp [h1n, hk, partOf]))
  refine Stk.callS 8 (moveQ s1.a d.W) rfl rfl rfl (by simp) ?_
  intro v H2 n2 hv
  have hm : ∃ (w : Int) (m : Int) (e : Int), v = .tup [U w, I m, I e] ∧ ∃ h', Step H1 (n + 1) p i c H2 n2 h' ∧ Wd h' ∧ RunQ Try.prog T.T 132 [.own p' 0, U d.W] H2 n2 (fun r H' n' => r = .tup [U w, I m, I e] ∧ StepR H2 n2 p' i' c' H' n' h') := by
    have calm : Calm H1 (n + 1) H2 n2 → Step H1 (n + 1) p i c H2 n2 h := fun hc => ⟨s1.a.far hc.1 hc.2, hc.1, fun j h1 _ _ => hc.2 j h1⟩
    have calmR : ∀ {H' n'}, StR H2 n2 p' i' c' h → Calm H2 n2 H' n' → StepR H2 n2 p' i' c' H' n' h := fun s hc => ⟨s.far hc.1 hc.2, hc.1, fun j h1 _ _ => hc.2 j h1⟩
    cases hrec : h.recAt d.W with
    | none =>
      rw [hrec] at hv
      obtain ⟨rfl, hc⟩ := hv
      refine ⟨0, 0, 22, rfl, h, calm hc, s.wd, ?_⟩
      have hm := moveR (s1.mid (calm hc)) s.wd d.W ok.w.1 ok.w.2
      rw [hrec] at hm
      obtain ⟨r, H', n', q1, q2, q3⟩ := hm
      exact ⟨r, H', n', q1, q2, calmR (s1.mid (calm hc)) q3⟩
    | some bx =>
      obtain ⟨b, x⟩ := bx
      rw [hrec] at hv
      obtain ⟨a, ha, hsa, hb, hv⟩ := hv
      have hm0 : ∀ {H2 : Mem} {n2 : Nat} {h' : Hp}, Step H1 (n + 1) p i c H2 n2 h' → RunQ Try.prog T.T 132 [.own p' 0, U d.W] H2 n2 (fun r H' n' => (if h.usedP d.W = true then r = .tup [U d.W, I 0, I 0] ∧ Calm H2 n2 H' n'
      else if h.usedP (h.ws.getD (a + 1) 0) = true then r = .tup [U (h.ws.getD (a + 1) 0), I 0, I 0] ∧ Calm H2 n2 H' n'
      else if size x.1 x.2.1 x.2.2 ≤ h.room then r = .tup [U (2 * h.next : Nat), I (size x.1 x.2.1 x.2.2), I 0] ∧ StepR H2 n2 p' i' c' H' n' ⟨((putL h.ws h.next (Hea.hv x.1 x.2.1 x.2.2 :: ((2 * h.next : Nat) : Int) :: (h.ws.drop (b + 2)).take (size x.1 x.2.1 x.2.2 - 2))).set (a + 1) ((2 * h.next : Nat) : Int)).set (b + 1) ((2 * h.next : Nat) : Int), h.half, h.up, h.next + size x.1 x.2.1 x.2.2, h.on, h.scan⟩
      else r = .tup [U 0, I 0, I 21] ∧ Calm H2 n2 H' n')) := by
        intro H2 n2 h' st
        obtain ⟨r, H', n', q1, q2⟩ := moveR (s1.mid st) s.wd d.W ok.w.1 ok.w.2
        rw [hrec] at q2
        obtain ⟨a2, ha2, _, _, q2⟩ := q2
        rw [ha] at ha2
        cases ha2
        exact ⟨r, H', n', q1, q2⟩
      obtain ⟨b1, b2, b3, hcan, _⟩ := recAt_le hrec
      by_cases u1 : h.usedP d.W = true
      · rw [if_pos u1] at hv
        obtain ⟨rfl, hc⟩ := hv
        obtain ⟨r, H', n', q1, q2⟩ := hm0 (calm hc)
        rw [if_pos u1] at q2
        exact ⟨d.W, 0, 0, rfl, h, calm hc, s.wd, r, H', n', q1, q2.1, calmR (s1.mid (calm hc)) q2.2⟩
      · rw [if_neg u1] at hv
        by_cases u2 : h.usedP (h.ws.getD (a + 1) 0) = true
        · rw [if_pos u2] at hv
          obtain ⟨rfl, hc⟩ := hv
          obtain ⟨r, H', n', q1, q2⟩ := hm0 (calm hc)
          rw [if_neg u1, if_pos u2] at q2
          exact ⟨_, 0, 0, rfl, h, calm hc, s.wd, r, H', n', q1, q2.1, calmR (s1.mid (calm hc)) q2.2⟩
        · rw [if_neg u2] at hv
          by_cases u3 : size x.1 x.2.1 x.2.2 ≤ h.room
          · rw [if_pos u3] at hv
            obtain ⟨rfl, st⟩ := hv
            obtain ⟨r, H', n', q1, q2⟩ := hm0 st
            rw [if_neg u1, if_neg u2, if_pos u3] at q2
            have hpw : In64 ((2 * h.next : Nat) : Int) := by have := s.a.ok.to; have := s.a.ok.hi; have := h.begin_le; constructor <;> omega
            have wput : ∀ v ∈ putL h.ws h.next (Hea.hv x.1 x.2.1 x.2.2 :: ((2 * h.next : Nat) : Int) :: (h.ws.drop (b + 2)).take (size x.1 x.2.1 x.2.2 - 2)), In64 v := in_putL s.wd (fun v hv => by
              rcases List.mem_cons.1 hv with e | hv
              · rw [e]; exact hv_in hcan
              rcases List.mem_cons.1 hv with e | hv
              · rw [e]; exact hpw
              · exact s.wd v (List.mem_of_mem_drop (List.mem_of_mem_take hv)))
            refine ⟨_, _, 0, rfl, _, st, ?_, r, H', n', q1, q2.1, q2.2⟩
            intro v hv
            rcases List.mem_or_eq_of_mem_set hv with h1 | h1
            · rcases List.mem_or_eq_of_mem_set h1 with h2 | h2
              · exact wput v h2
              · rw [h2]; exact hpw
            · rw [h1]; exact hpw
          · rw [if_neg u3] at hv
            obtain ⟨rfl, hc⟩ := hv
            obtain ⟨r, H', n', q1, q2⟩ := hm0 (calm hc)
            rw [if_neg u1, if_neg u2, if_neg u3] at q2
            exact ⟨0, 0, 21, rfl, h, calm hc, s.wd, r, H', n', q1, q2.1, calmR (s1.mid (calm hc)) q2.2⟩
  obtain ⟨w, m, e, rfl, h', st, wd', hq⟩ := hm
  have h2n : H2 n = some (.cells [.sc (.int .u8 d.Kind), I d.X.Kind, I d.X.Tag, I d.X.Count, .ssl (encs eU d.L) d.L.length false, U d.W, I d.I] 113) := by rw [st.keep n (by omega) (by omega) (by omega)]; exact h1n
  simp
  iterate 8 (try (refine evS_sound (f := 8) ?_; simp [h2n, partOf]))
  refine Stk.callS 8 hq rfl rfl rfl (by simp) ?_
  rintro v H3 n3 ⟨rfl, st2⟩
  simp
  iterate 8 (try (refine evS_sound (f := 8) ?_; simp [partOf]))
  have g1 := st.le
  have g2 := st2.le
  refine hr _ _ _ (B true) (by simp) ⟨rfl, by omega, fun j a1 a2 a3 a4 a5 => ?_, _, s1.on st st2 wd'⟩
  rw [st2.keep j (by omega) a4 a5, st.keep j (by omega) a2 a3, hc1.2 j a1]
end Go.Proofs.Ytfflojbgikfbmaa.Hea
