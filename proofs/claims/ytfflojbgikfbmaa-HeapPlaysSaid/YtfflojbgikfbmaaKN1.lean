/-
  The heap's other methods: Where, Set.
-/
import Derived.Test.YtfflojbgikfbmaaKMd
namespace Go.Proofs.Ytfflojbgikfbmaa.Hea
open Go.Proofs.YtfflojbgikfbmaaW.Ah
open Go.Proofs.Ytfflojbgikfbmaa.Sta (U Er eU wrap_nsub wrap_pred load_u)
set_option maxRecDepth 4000
set_option linter.unusedVariables false
set_option linter.unusedSimpArgs false
attribute [local simp] T.t3 T.t4 T.t5 T.t26 T.t34 T.t35 T.t39 T.t40 T.t62 T.t63 T.t70 T.t93 T.t144 Op.maxDepth List.range List.range.loop
attribute [-simp] appendAV cellsOf cellOk partOk
attribute [local simp] cellsOf_sc cellOk_sc partOk_sc cellsOf_own cellOk_own partOk_own cellsOf_osl cellOk_osl partOk_osl cellsOf_sh cellOk_sh partOk_sh cellsOf_ssl cellOk_ssl partOk_ssl cellsOf_esl cellOk_esl partOk_esl cellsOf_fn cellOk_fn partOk_fn cellsOf_omap cellOk_omap partOk_omap cellsOf_agg partOk_agg cellsOf_slv cellOk_slv partOk_slv


def whereV : Option (Nat × Int × Int × Int) → AV
  | some (b, _) => .tup [I b, Er 0]
  | none => .tup [I 0, Er 22]
theorem pl_place {h : Hp} {w : Int} {a : Nat} (e : h.pl w = some a) : place w = some a := by
  unfold Hp.pl at e
  split at e
  · rename_i b hb
    split at e
    · cases e; exact hb
    · cases e
  · cases e

theorem whereQ {H : Mem} {n p i : Nat} {c : Option Nat} {h : Hp} (s : St H n p i c h) (w : Int) :
    RunQ Try.prog T.T 127 [.own p 0, U w] H n (fun r H' n' => r = whereV (h.recAt w) ∧ Calm H n H' n') := by
  refine RunQ.ev 999 Try.func127 rfl rfl rfl rfl rfl fun C hr hn => ?_
  simp
  refine Stk.callS 99 (recQ s w) rfl rfl rfl (by simp) ?_
  rintro v H1 n1 ⟨rfl, hc1⟩
  have g1 := hc1.1
  cases hrec : h.recAt w with
  | none =>
    simp [recV, partOf]
    exact hr _ _ _ (whereV none) (by simp [whereV]) ⟨by rw [hrec], by omega, fun j hj => by rw [upd_ne _ _ (by omega), upd_ne _ _ (by omega), hc1.2 j hj]⟩
  | some bx =>
    obtain ⟨b, x⟩ := bx
    obtain ⟨a, ha, hsa, hb, hsb⟩ := recAt_pl hrec
    have hpl := pl_le ha
    have hspl := span_le (h := h) hpl.2.1
    have hbl := pl_le hb
    have hlen := s.ok.len
    have hhi := s.ok.hi
    obtain ⟨H2, hH2⟩ : ∃ H2 : Mem, H2 = upd (upd H1 n1 (some (.cells [.sc (.int .i64 0), .sc (.int .i64 0), .sc (.int .i64 0)] 34))) n1 (some (.cells [I x.1, I x.2.1, I x.2.2] 34)) := ⟨_, rfl⟩
    have hc2 : Calm H n H2 (n1 + 1) := ⟨by omega, fun j hj => by rw [hH2, upd_ne _ _ (by omega), upd_ne _ _ (by omega), hc1.2 j hj]⟩
    have s2 := s.far hc2.1 hc2.2
    have hld := ldw (ws := h.ws) (k := a + 1) (by omega)
    have hp := pl_place hb
    have hat := atF (h.ws.getD (a + 1) 0)
    rw [hp] at hat
    have hf := fromQ s2 w
    rw [ha] at hf
    have q1 : (1 : Int) < h.span a := by omega
    have q2 : 1 < h.span a := by omega
    have hw := s2.hw
    obtain ⟨u, hu⟩ : ∃ u, u = h.ws.getD (a + 1) 0 := ⟨_, rfl⟩
    rw [← hu] at hld hat
    have wb : IntKind.i64.wrap (b : Int) = b := wrap64_id (by omega) (by omega)
    simp [recV, partOf]
    rw [← hH2]
    refine Stk.callS 9 hf rfl rfl rfl (by simp) ?_
    rintro v H3 n3 ⟨rfl, rfl, rfl⟩
    simp [fromV, q1, q2, hw, hld]
    refine Stk.callF 9 hat rfl rfl rfl (by simp) rfl rfl ?_
    simp
    iterate 3 (try (refine evS_sound (f := 8) ?_; simp [wb]))
    exact hr _ _ _ (.tup [I b, Er 0]) (by simp) ⟨by rw [hrec]; rfl, hc2⟩

/-- What Set does. -/
def setV (h : Hp) (k : Int) : Option (Nat × Int × Int × Int) → Int
  | none => 22
  | some (b, x) => if x.1 = 0 then (if 0 ≤ k ∧ k < x.2.2 then 0 else 20) else 22
theorem setQ {H : Mem} {n p i : Nat} {c : Option Nat} {h : Hp} (s : St H n p i c h) (w k v : Int) :
    RunQ Try.prog T.T 129 [.own p 0, U w, I k, U v] H n (fun r H' n' => r = Er (setV h k (h.recAt w)) ∧ Step H n p i c H' n' (match h.recAt w with | some (b, x) => if x.1 = 0 ∧ 0 ≤ k ∧ k < x.2.2 then ⟨h.ws.set (b + 2 + k.toNat) v, h.half, h.up, h.next, h.on, h.scan⟩ else h | none => h)) := by
  refine RunQ.ev 999 Try.func129 rfl rfl rfl rfl rfl fun C hr hn => ?_
  simp
  refine Stk.callS 99 (fieldsQ s w k) rfl rfl rfl (by simp) ?_
  rintro r1 H1 n1 ⟨rfl, hc1⟩
  have s1 := s.far hc1.1 hc1.2
  have calm : Step H n p i c H1 n1 h := ⟨s1, hc1.1, fun j hj _ _ => hc1.2 j hj⟩
  cases hrec : h.recAt w with
  | none =>
    simp [fieldsV]
    exact hr _ _ _ (Er 22) (by simp) ⟨by rw [hrec]; rfl, by rw [hrec]; exact calm⟩
  | some bx =>
    obtain ⟨b, x⟩ := bx
    obtain ⟨b1, b2, b3, hcan, _⟩ := recAt_le hrec
    have hsz := size_can hcan
    by_cases h0 : x.1 = 0
    · by_cases h1 : 0 ≤ k ∧ k < x.2.2
      · have hb2 : body x.1 x.2.2 = x.2.2.toNat := by simp [body, h0]
        obtain ⟨m, rfl⟩ := Int.eq_ofNat_of_zero_le h1.1
        have hwo := s1.hw
        have hlen := s.ok.len
        obtain ⟨sz, hsz'⟩ : ∃ sz, sz = size x.1 x.2.1 x.2.2 := ⟨_, rfl⟩
        have q1 : m < sz - 2 := by omega
        have q2 : (m : Int) < ((sz - 2 : Nat) : Int) := by omega
        have hf : fieldsV i m (some (b, x)) = .tup [.osl i (b + 2) (sz - 2) (some (sz - 2)), Er 0] := by
          unfold fieldsV; simp only; rw [if_pos h0, if_pos h1, ← hsz']
        have hset := set_cells (l := h.ws) (k := b + 2 + m) (by omega) v
        have hlt : b + 2 + m + 1 ≤ h.ws.length := by omega
        have hlt2 : b + 2 + m < h.ws.length := by omega
        rw [hf]
        simp [q1, q2, hwo, splice, hset, hlt, hlt2]
        have hne := s1.ne
        refine hr _ _ _ (Er 0) (by simp) ⟨by rw [hrec]; unfold setV; simp only; rw [if_pos h0, if_pos h1], ?_⟩
        rw [hrec]
        simp only
        rw [if_pos ⟨h0, h1⟩, Int.toNat_natCast]
        exact ⟨⟨by rw [upd_ne _ _ (Ne.symm hne)]; exact s1.hp, upd_same _ _ _, s1.lp, s1.li, s1.ne, s1.hc, ⟨s1.ok.lo, s1.ok.hi, by simp only [List.length_set]; exact s1.ok.len, s1.ok.bg, s1.ok.to⟩⟩, hc1.1, fun j hj _ hji => by rw [upd_ne _ _ hji, hc1.2 j hj]⟩
      · have hf : fieldsV i k (some (b, x)) = .tup [.sc (.slice none 0 0), Er 20] := by simp [fieldsV, h0, h1]
        rw [hf]
        simp
        iterate 2 (try (refine evS_sound (f := 8) ?_; simp))
        exact hr _ _ _ (Er 20) (by simp) ⟨by rw [hrec]; simp [setV, h0, h1], by rw [hrec]; simp only; rw [if_neg (fun e => h1 e.2)]; exact calm⟩
    · have hf : fieldsV i k (some (b, x)) = .tup [.sc (.slice none 0 0), Er 22] := by simp [fieldsV, h0]
      rw [hf]
      simp
      iterate 2 (try (refine evS_sound (f := 8) ?_; simp))
      exact hr _ _ _ (Er 22) (by simp) ⟨by rw [hrec]; simp [setV, h0], by rw [hrec]; simp only; rw [if_neg (fun e => h0 e.1)]; exact calm⟩
end Go.Proofs.Ytfflojbgikfbmaa.Hea

/-
  The heap: Move.
-/
namespace Go.Proofs.Ytfflojbgikfbmaa.Hea
open Go.Proofs.YtfflojbgikfbmaaW.Ah
open Go.Proofs.Ytfflojbgikfbmaa.Sta (U Er eU wrap_nsub wrap_pred load_u)
set_option maxRecDepth 4000
set_option linter.unusedVariables false
set_option linter.unusedSimpArgs false
attribute [local simp] T.t3 T.t4 T.t5 T.t26 T.t34 T.t39 T.t40 T.t62 T.t63 T.t70 T.t93 T.t144 Op.maxDepth List.range List.range.loop
attribute [-simp] appendAV cellsOf cellOk partOk
attribute [local simp] cellsOf_sc cellOk_sc partOk_sc cellsOf_own cellOk_own partOk_own cellsOf_osl cellOk_osl partOk_osl cellsOf_sh cellOk_sh partOk_sh cellsOf_ssl cellOk_ssl partOk_ssl cellsOf_esl cellOk_esl partOk_esl cellsOf_fn cellOk_fn partOk_fn cellsOf_omap cellOk_omap partOk_omap cellsOf_agg partOk_agg cellsOf_slv cellOk_slv partOk_slv

theorem move {H : Mem} {n p i : Nat} {c : Option Nat} {h : Hp} (s : St H n p i c h) {w : Int} {a b : Nat} {x : Int × Int × Int} (hrec : h.recAt w = some (b, x)) (hpl : h.pl w = some a) (hsa : 2 ≤ h.span a) (hdis : h.usedP w = false → h.usedP (h.ws.getD (a + 1) 0) = false → b + size x.1 x.2.1 x.2.2 ≤ h.next ∨ h.next + 2 ≤ b + 2) :
    RunQ Try.prog T.T 51 [.own p 0, U w] H n (fun r H' n' =>
      if h.usedP w = true then r = .tup [U w, I 0, Er 0] ∧ Calm H n H' n'
      else if h.usedP (h.ws.getD (a + 1) 0) = true then r = .tup [U (h.ws.getD (a + 1) 0), I 0, Er 0] ∧ Calm H n H' n'
      else if size x.1 x.2.1 x.2.2 ≤ h.room then r = .tup [U (2 * h.next : Nat), I (size x.1 x.2.1 x.2.2), Er 0] ∧ Step H n p i c H' n' ⟨((putL h.ws h.next (hv x.1 x.2.1 x.2.2 :: ((2 * h.next : Nat) : Int) :: (h.ws.drop (b + 2)).take (size x.1 x.2.1 x.2.2 - 2))).set (a + 1) ((2 * h.next : Nat) : Int)).set (b + 1) ((2 * h.next : Nat) : Int), h.half, h.up, h.next + size x.1 x.2.1 x.2.2, h.on, h.scan⟩
      else r = .tup [U 0, I 0, Er 21] ∧ Calm H n H' n') := by
  have hlen := s.ok.len
  have hlp := s.lp
  have hli := s.li
  obtain ⟨b1, b2, b3, hcan, hwb⟩ := recAt_le hrec
  obtain ⟨a1, a2, _⟩ := pl_le hpl
  have hspa := span_le a2
  have hsz := size_can hcan
  have hbl := body_le hcan
  obtain ⟨sz, hsz'⟩ : ∃ sz, sz = size x.1 x.2.1 x.2.2 := ⟨_, rfl⟩
  rw [← hsz'] at b3 hsz hdis ⊢
  refine RunQ.ev 999 Try.func51 rfl rfl rfl rfl rfl fun C hr hn => ?_
  simp
  refine Stk.callS 999 (recQ s w) rfl rfl rfl (by simp) ?_
  rintro v H1 n1 ⟨rfl, hc1⟩
  rw [hrec]
  simp only [recV, ← hsz']
  obtain ⟨Z, hZ⟩ : ∃ Z : Mem, Z = upd (upd H1 n1 (some (.cells [.sc (.int .i64 0), .sc (.int .i64 0), .sc (.int .i64 0)] 34))) n1 (some (.cells [I x.1, I x.2.1, I x.2.2] 34)) := ⟨_, rfl⟩
  have hcZ : Calm H n Z (n1 + 1) := ⟨by have := hc1.1; omega, fun j hj => by have := hc1.1; rw [hZ, upd_ne _ _ (by omega), upd_ne _ _ (by omega), hc1.2 j hj]⟩
  have sZ := s.far hcZ.1 hcZ.2
  have zx : Z n1 = some (.cells [I x.1, I x.2.1, I x.2.2] 34) := by rw [hZ, upd_same]
  simp
  rw [← hZ]
  refine Stk.callS 999 (fromQ sZ w) rfl rfl rfl (by simp) ?_
  rintro v H2 n2 ⟨rfl, rfl, rfl⟩
  rw [hpl]
  simp only [fromV]
  simp
  refine Stk.callS 999 (usedQ sZ w) rfl rfl rfl (by simp) ?_
  rintro v H3 n3 ⟨rfl, rfl, rfl⟩
  cases hu1 : h.usedP w
  · simp only [hu1] at hr
    have hsai : (1 : Int) < h.span a := by omega
    have hsan : 1 < h.span a := by omega
    have hwo := sZ.hw
    have hl1 := ldw (ws := h.ws) (k := a + 1) (by omega)
    obtain ⟨u, hu⟩ : ∃ u, u = h.ws.getD (a + 1) 0 := ⟨_, rfl⟩
    rw [← hu] at hl1 hr
    simp [hsai, hsan, hwo, hl1]
    refine Stk.callS 999 (usedQ sZ u) rfl rfl rfl (by simp) ?_
    rintro v H4 n4 ⟨rfl, rfl, rfl⟩
    cases hu2 : h.usedP u
    · simp only [hu2] at hr
      simp
      refine Stk.callS 999 (room sZ) rfl rfl rfl (by simp) ?_
      rintro v H5 n5 ⟨rfl, hc5⟩
      have g1 := hc1.1
      have g5 := hc5.1
      have hc5' : Calm H n H5 n5 := ⟨by omega, fun j hj => by rw [hc5.2 j (by omega), hcZ.2 j hj]⟩
      have s5 := s.far hc5'.1 hc5'.2
      by_cases hfit : sz ≤ h.room
      · have hni : ¬ h.room < sz := by omega
        have hnii : ¬ (h.room : Int) < sz := by omega
        have hwo5 := s5.hw
        have hl2 := ldw (ws := h.ws) (k := b) (by omega)
        rw [hwb] at hl2
        have h0s : (0 : Int) < sz := by omega
        have h0n : 0 < sz := by omega
        have h2i : (2 : Int) ≤ sz := by omega
        have h2n : 2 ≤ sz := by omega
        simp [hni, hnii]
        refine Stk.regionD 999 [.rd [], .rd [], .rd [], .rd [i], .rd [], .rd [i], .mem [p, i] n5, .rd []] none (by kernel_rfl) (by rfl) rfl (by simp [below, s5.li]) rfl ?_
        have hlay := layS s5 (hv x.1 x.2.1 x.2.2) (b := b) (sz := sz) h2n b3 (hdis hu1 (by rw [← hu]; exact hu2)) hfit
        obtain ⟨out, hout⟩ : ∃ out : Int, out = ((2 * h.next : Nat) : Int) := ⟨_, rfl⟩
        obtain ⟨ws6, hws6⟩ : ∃ ws6, ws6 = putL h.ws h.next (hv x.1 x.2.1 x.2.2 :: ((2 * h.next : Nat) : Int) :: (h.ws.drop (b + 2)).take (sz - 2)) := ⟨_, rfl⟩
        rw [← hws6] at hlay hr
        rw [← hout] at hlay hr
        have hl6 : ws6.length = 2 * h.half + 1 := by
          have hbl := h.begin_le
          have hto := s.ok.to
          have hro : h.room = h.begin + h.half - h.next := rfl
          rw [hws6, putL_len (by simp; omega), hlen]
        have k1 : a + 1 + 1 ≤ 2 * h.half + 1 := by omega
        have k2 : b + 1 + 1 ≤ 2 * h.half + 1 := by omega
        have k1' : a + 1 ≤ 2 * h.half := by omega
        have k2' : b + 1 ≤ 2 * h.half := by omega
        have sc1 := set_cells (l := ws6) (k := a + 1) (by omega) out
        have sc2 := set_cells (l := ws6.set (a + 1) out) (k := b + 1) (by simp; omega) out
        have hl6' : (ws6.set (a + 1) out).length = 2 * h.half + 1 := by simp [hl6]
        have h1si : (1 : Int) < sz := by omega
        have h1sn : 1 < sz := by omega
        have hne := s.ne
        have fin : ∀ (t : Nat → AV) H6 H7, t 4 = U out → t 6 = I 0 → t 5 = I sz → Step H5 n5 p i c H6 n5 ⟨ws6, h.half, h.up, h.next + sz, h.on, h.scan⟩ → H7 i = some (.cells (encs eU ((ws6.set (a + 1) out).set (b + 1) out)) 40) → (∀ j, j ≠ i → H7 j = H6 j) → C .ret t H7 n5 := by
          intro t H6 H7 t4 t6 t5 st6 g1 g2
          refine hr _ _ _ (.tup [U out, I sz, Er 0]) (by simp [t4, t5, t6]) ?_
          have st := st6.st
          have hok := st.ok
          simp only [hu1, hu2, Bool.false_eq_true, if_false]
          rw [if_pos hfit]
          refine ⟨trivial, ⟨by rw [g2 p (Ne.symm hne)]; exact st.hp, g1, st.lp, st.li, hne, st.hc, ⟨hok.lo, hok.hi, by simp [hl6], hok.bg, hok.to⟩⟩, hc5'.1, fun j hj hjp hji => by rw [g2 j hji, st6.keep j (by omega) hjp hji, hc5'.2 j hj]⟩
        by_cases h3s : 2 < sz
        · have htv : tailV i b sz = .osl i (b + 2) (sz - 2) (some (sz - 2)) := by unfold tailV; rw [if_pos h3s]
          rw [htv] at hlay
          simp [h0s, h0n, hwo5, hl2, natOk, h2i, h2n, h3s]
          refine Stk.callSD 999 rfl ?_ hlay rfl rfl rfl rfl (by simp) ?_
          · rintro v H6 n6 ⟨_, _, g⟩ j hj hj'
            simp at hj'
            exact g.keep j hj hj'.1 hj'.2
          rintro v H6 n6 ⟨rfl, rfl, st6⟩
          have hwo6 := st6.st.hw
          have h6x : H6 n1 = some (.cells [I x.1, I x.2.1, I x.2.2] 34) := by rw [st6.keep n1 (by omega) (by omega) (by omega), hc5.2 n1 (by omega), zx]
          have hin1 : ¬ n1 = i := by omega
          simp only at hwo6
          simp [hsai, hsan, h1si, h1sn, hwo6, hl6, k1, k2, k1', k2', sc1, sc2, hl6', h6x, hin1, partOf]
          refine Stk.callF 999 (sizeF x.1 x.2.1 x.2.2) rfl rfl rfl (by simp) rfl rfl ?_
          simp [← hsz']
          exact fin _ _ _ (by simp) (by simp) (by simp [hsz']) st6 (by simp) (fun j hj => by simp [hj])
        · have htv : tailV i b sz = .esl true := by unfold tailV; rw [if_neg h3s]
          have hs0 : sz - 2 = 0 := by omega
          rw [htv] at hlay
          simp [h0s, h0n, hwo5, hl2, natOk, h2i, h2n, h3s, hs0]
          refine Stk.callSD 999 rfl ?_ hlay rfl rfl rfl rfl (by simp) ?_
          · rintro v H6 n6 ⟨_, _, g⟩ j hj hj'
            simp at hj'
            exact g.keep j hj hj'.1 hj'.2
          rintro v H6 n6 ⟨rfl, rfl, st6⟩
          have hwo6 := st6.st.hw
          have h6x : H6 n1 = some (.cells [I x.1, I x.2.1, I x.2.2] 34) := by rw [st6.keep n1 (by omega) (by omega) (by omega), hc5.2 n1 (by omega), zx]
          have hin1 : ¬ n1 = i := by omega
          simp only at hwo6
          simp [hsai, hsan, h1si, h1sn, hwo6, hl6, k1, k2, k1', k2', sc1, sc2, hl6', h6x, hin1, partOf]
          refine Stk.callF 999 (sizeF x.1 x.2.1 x.2.2) rfl rfl rfl (by simp) rfl rfl ?_
          simp [← hsz']
          exact fin _ _ _ (by simp) (by simp) (by simp [hsz']) st6 (by simp) (fun j hj => by simp [hj])
      · have hni : h.room < sz := by omega
        have hnii : (h.room : Int) < sz := by omega
        simp [hni, hnii]
        refine hr _ _ _ (.tup [U 0, I 0, Er 21]) (by simp) ?_
        simp [hfit]
        exact hc5'
    · simp only [hu2] at hr
      simp [hsai, hsan, hwo, hl1]
      exact hr _ _ _ (.tup [U u, I 0, Er 0]) (by simp) (by simp; exact hcZ)
  · simp only [hu1] at hr
    simp
    exact hr _ _ _ (.tup [U w, I 0, Er 0]) (by simp) (by simp; exact hcZ)

/-- What Move does. -/
theorem moveQ {H : Mem} {n p i : Nat} {c : Option Nat} {h : Hp} (s : St H n p i c h) (w : Int) :
    RunQ Try.prog T.T 51 [.own p 0, U w] H n (fun r H' n' => match h.recAt w with
      | none => r = .tup [U 0, I 0, Er 22] ∧ Calm H n H' n'
      | some (b, x) => ∃ a, h.pl w = some a ∧ 2 ≤ h.span a ∧ h.pl (h.ws.getD (a + 1) 0) = some b ∧ (if h.usedP w = true then r = .tup [U w, I 0, Er 0] ∧ Calm H n H' n'
      else if h.usedP (h.ws.getD (a + 1) 0) = true then r = .tup [U (h.ws.getD (a + 1) 0), I 0, Er 0] ∧ Calm H n H' n'
      else if size x.1 x.2.1 x.2.2 ≤ h.room then r = .tup [U (2 * h.next : Nat), I (size x.1 x.2.1 x.2.2), Er 0] ∧ Step H n p i c H' n' ⟨((putL h.ws h.next (hv x.1 x.2.1 x.2.2 :: ((2 * h.next : Nat) : Int) :: (h.ws.drop (b + 2)).take (size x.1 x.2.1 x.2.2 - 2))).set (a + 1) ((2 * h.next : Nat) : Int)).set (b + 1) ((2 * h.next : Nat) : Int), h.half, h.up, h.next + size x.1 x.2.1 x.2.2, h.on, h.scan⟩
      else r = .tup [U 0, I 0, Er 21] ∧ Calm H n H' n')) := by
  cases hrec : h.recAt w with
  | none =>
    refine RunQ.ev 999 Try.func51 rfl rfl rfl rfl rfl fun C hr hn => ?_
    simp
    refine Stk.callS 99 (recQ s w) rfl rfl rfl (by simp) ?_
    rintro v H1 n1 ⟨rfl, hc1⟩
    rw [hrec]
    simp [recV, partOf]
    exact hr _ _ _ (.tup [U 0, I 0, Er 22]) (by simp) ⟨rfl, by have := hc1.1; omega, fun j hj => by have := hc1.1; rw [upd_ne _ _ (by omega), upd_ne _ _ (by omega), hc1.2 j hj]⟩
  | some bx =>
    obtain ⟨b, x⟩ := bx
    obtain ⟨a, ha, hsa, hb, hsb⟩ := recAt_pl hrec
    obtain ⟨r, H', n', q1, q2⟩ := move s hrec ha hsa (fun u1 u2 => by
      have p2 := pl_place hb
      unfold Hp.usedP at u2
      rw [p2] at u2
      have hbg := s.ok.bg
      have hto := s.ok.to
      unfold Hp.begin at hbg hto
      unfold Hp.span at hsb
      have hb1 := pl_le hb
      cases hup : h.up with
      | true =>
        rw [hup] at u2 hbg hto
        simp at u2 hbg hto
        rw [if_pos (by omega)] at hsb
        omega
      | false =>
        rw [hup] at u2 hbg hto
        simp at u2 hbg hto
        omega)
    exact ⟨r, H', n', q1, a, ha, hsa, hb, q2⟩
end Go.Proofs.Ytfflojbgikfbmaa.Hea

/-
  The heap's Text where there is none, and From.
-/
namespace Go.Proofs.Ytfflojbgikfbmaa.Hea
open Go.Proofs.YtfflojbgikfbmaaW.Ah
open Go.Proofs.Ytfflojbgikfbmaa.Sta (U Er eU wrap_nsub wrap_pred load_u)
set_option maxRecDepth 4000
set_option linter.unusedVariables false
set_option linter.unusedSimpArgs false
attribute [local simp] T.t3 T.t4 T.t5 T.t26 T.t34 T.t35 T.t39 T.t40 T.t62 T.t63 T.t70 T.t93 T.t144 Op.maxDepth List.range List.range.loop
attribute [-simp] appendAV cellsOf cellOk partOk
attribute [local simp] cellsOf_sc cellOk_sc partOk_sc cellsOf_own cellOk_own partOk_own cellsOf_osl cellOk_osl partOk_osl cellsOf_sh cellOk_sh partOk_sh cellsOf_ssl cellOk_ssl partOk_ssl cellsOf_esl cellOk_esl partOk_esl cellsOf_fn cellOk_fn partOk_fn cellsOf_omap cellOk_omap partOk_omap cellsOf_agg partOk_agg cellsOf_slv cellOk_slv partOk_slv



theorem textN {H : Mem} {n p i : Nat} {c : Option Nat} {h : Hp} (s : St H n p i c h) {w : Int} (hn1 : ∀ b x, h.recAt w = some (b, x) → x.1 ≠ 1) :
    RunQ Try.prog T.T 63 [.own p 0, U w] H n (fun r H' n' => r = .tup [.sc (.slice none 0 0), Er 22] ∧ Calm H n H' n') := by
  refine RunQ.ev 999 Try.func63 rfl rfl rfl rfl rfl fun C hr hn => ?_
  simp
  refine Stk.callS 99 (recQ s w) rfl rfl rfl (by simp) ?_
  rintro v H1 n1 ⟨rfl, hc1⟩
  cases hrec : h.recAt w with
  | none =>
    simp [recV, partOf]
    exact hr _ _ _ (.tup [.sc (.slice none 0 0), Er 22]) (by simp) ⟨rfl, by have := hc1.1; omega, fun j hj => by have := hc1.1; rw [upd_ne _ _ (by omega), upd_ne _ _ (by omega), hc1.2 j hj]⟩
  | some bx =>
    obtain ⟨b, x⟩ := bx
    have hx := hn1 b x hrec
    have hxb : (x.1 != 1) = true := by simp [hx]
    simp [recV, partOf, hx, hxb]
    exact hr _ _ _ (.tup [.sc (.slice none 0 0), Er 22]) (by simp) ⟨rfl, by have := hc1.1; omega, fun j hj => by have := hc1.1; rw [upd_ne _ _ (by omega), upd_ne _ _ (by omega), hc1.2 j hj]⟩

theorem fromN (H : Mem) (n : Nat) (ws : List Int) (half next scan : Int) (up on : Bool) (hfit : RunF Try.prog T.T 61 [.agg [.ssl (encs eU ws) ws.length false, I half, B up, I next, B on, I scan]] (B false)) :
    RunQ Try.prog T.T 66 [.agg [.ssl (encs eU ws) ws.length false, I half, B up, I next, B on, I scan]] H n (fun r H' n' => r = .tup [.sc (.pointer none), Er 19] ∧ Calm H n H' n') := by
  refine RunQ.ev 999 Try.func66 rfl rfl rfl rfl rfl fun C hr hn => ?_
  simp [partOf]
  refine Stk.callF 99 hfit rfl rfl rfl (by simp) (by simp [freeL, free, freeL_encs (e := eU) (fun _ => rfl)]) rfl ?_
  simp
  exact hr _ _ _ (.tup [.sc (.pointer none), Er 19]) (by simp) ⟨rfl, by omega, fun j hj => by rw [upd_ne _ _ (by omega)]⟩

theorem cloneX {H : Mem} {n : Nat} {ws : List Int} (h0 : ¬ ws.length = 0) (hl : ws.length ≤ 65536) :
    RunQ Try.prog T.T 85 [.ssl (encs eU ws) ws.length false] H n (fun r H' n' => r = .osl (n + 1) 0 ws.length none ∧ n' = n + 2 ∧ H' (n + 1) = some (.cells (encs eU ws) 40) ∧ ∀ j, j < n → H' j = H j) := by
  refine RunQ.ev 999 Try.func85 rfl rfl rfl rfl rfl fun C hr hn' => ?_
  have hall : (encs eU ws).all cellOk = true := by
    rw [List.all_eq_true]
    intro x hx
    rw [encs_map, List.mem_map] at hx
    obtain ⟨y, _, rfl⟩ := hx
    rfl
  have hr1 : ws.length * 8 ≤ 70368744177664 := by omega
  have hr2 : ws.length ≤ 70368744177664 := by omega
  have hnx : ¬ ws = [] := fun e => h0 (by rw [e]; rfl)
  have htk : List.take ws.length (encs eU ws) = encs eU ws := List.take_of_length_le (by simp [length_encs])
  simp [appendAV, roomMax, hr1, hr2, hnx, h0, hall, -cellOk, -List.all_eq_true, htk]
  exact hr _ _ _ (.osl (n + 1) 0 ws.length none) (by simp) ⟨rfl, rfl, by simp, fun j hj => by simp [show j ≠ n by omega, show j ≠ n + 1 by omega]⟩

theorem fromY (H : Mem) (n : Nat) (h : Hp) (hok : h.Ok) (hfit : RunF Try.prog T.T 61 [.agg [.ssl (encs eU h.ws) h.ws.length false, I h.half, B h.up, I h.next, B h.on, I h.scan]] (B true)) :
    RunQ Try.prog T.T 66 [.agg [.ssl (encs eU h.ws) h.ws.length false, I h.half, B h.up, I h.next, B h.on, I h.scan]] H n (fun r H' n' => ∃ p i, r = .tup [.own p 0, Er 0] ∧ n ≤ p ∧ n ≤ i ∧ Calm H n H' n' ∧ St H' n' p i none h) := by
  have hlen := hok.len
  have hhi := hok.hi
  refine RunQ.ev 999 Try.func66 rfl rfl rfl rfl rfl fun C hr hn => ?_
  simp [partOf]
  refine Stk.callF 99 hfit rfl rfl rfl (by simp) (by simp [freeL, free, freeL_encs (e := eU) (fun _ => rfl)]) rfl ?_
  simp
  refine Stk.callS 99 (cloneX (n := n + 1) (ws := h.ws) (by omega) (by omega)) rfl rfl rfl (by simp) ?_
  rintro v H3 n3 ⟨rfl, rfl, h3, hf3⟩
  have h3n : H3 n = some (.cells [.ssl (encs eU h.ws) h.ws.length false, I h.half, B h.up, I h.next, B h.on, I h.scan] 93) := by rw [hf3 n (by omega)]; simp
  simp [h3n, partOf, splice]
  refine hr _ _ _ (.tup [.own (n + 1 + 2) 0, Er 0]) (by simp) ⟨n + 1 + 2, n + 1 + 1, rfl, by omega, by omega, ⟨by omega, fun j hj => ?_⟩, ⟨?_, ?_, by omega, by omega, by omega, .inl rfl, hok⟩⟩
  · rw [upd_ne _ _ (by omega), upd_ne _ _ (by omega), hf3 j (by omega), upd_ne _ _ (by omega)]
  · rw [upd_same, hlen]
  · rw [upd_ne _ _ (by omega), upd_ne _ _ (by omega), h3]
end Go.Proofs.Ytfflojbgikfbmaa.Hea

/-
  The document's heap: what is made and what is written.
-/
namespace Go.Proofs.Ytfflojbgikfbmaa.Hea
open Go.Proofs.YtfflojbgikfbmaaW.Ah
open Go.Proofs.Ytfflojbgikfbmaa.Sta (U Er eU wrap_nsub wrap_pred load_u)
set_option maxRecDepth 4000
set_option linter.unusedVariables false
set_option linter.unusedSimpArgs false
attribute [local simp] T.t3 T.t4 T.t5 T.t26 T.t34 T.t35 T.t39 T.t40 T.t62 T.t63 T.t70 T.t93 T.t144 T.t108 T.t176 Op.maxDepth List.range List.range.loop
attribute [-simp] appendAV cellsOf cellOk partOk
attribute [local simp] cellsOf_sc cellOk_sc partOk_sc cellsOf_own cellOk_own partOk_own cellsOf_osl cellOk_osl partOk_osl cellsOf_sh cellOk_sh partOk_sh cellsOf_ssl cellOk_ssl partOk_ssl cellsOf_esl cellOk_esl partOk_esl cellsOf_fn cellOk_fn partOk_fn cellsOf_omap cellOk_omap partOk_omap cellsOf_agg partOk_agg cellsOf_slv cellOk_slv partOk_slv



structure StR (H : Mem) (n p i : Nat) (c : Option Nat) (h : Hp) : Prop where
  hp : H p = some (.cells (cells6 i c h) 176)
  hw : H i = some (.cells (encs eU h.ws) 40)
  lp : p < n
  li : i < n
  ne : i ≠ p
  hc : c = none ∨ c = some (2 * h.half + 1)
  ok : h.Ok
theorem StR.far {H H' : Mem} {n n' p i : Nat} {c : Option Nat} {h : Hp} (s : StR H n p i c h) (hn : n ≤ n') (hk : ∀ j, j < n → H' j = H j) : StR H' n' p i c h :=
  ⟨by rw [hk p s.lp, s.hp], by rw [hk i s.li, s.hw], by have := s.lp; omega, by have := s.li; omega, s.ne, s.hc, s.ok⟩
structure StepR (H : Mem) (n p i : Nat) (c : Option Nat) (H' : Mem) (n' : Nat) (h' : Hp) : Prop where
  st : StR H' n' p i c h'
  le : n ≤ n'
  keep : ∀ j, j < n → j ≠ p → j ≠ i → H' j = H j

theorem newR (H : Mem) (n : Nat) (m : Int) :
    RunQ Try.prog T.T 68 [I m] H n (fun r H' n' => if 16 ≤ m ∧ m ≤ 16384 then ∃ p i, r = .tup [.own p 0, Er 0] ∧ n ≤ p ∧ n ≤ i ∧ Calm H n H' n' ∧ StR H' n' p i (some (2 * m.toNat + 1)) ⟨List.replicate (2 * m.toNat + 1) 0, m.toNat, false, 1, false, 0⟩
      else r = .tup [.sc (.pointer none), Er 20] ∧ Calm H n H' n') := by
  refine RunQ.ev 999 Try.func68 rfl rfl rfl rfl rfl fun C hr hn => ?_
  by_cases h1 : m < 16
  · simp [h1]
    exact hr _ _ _ (.tup [.sc (.pointer none), Er 20]) (by simp) (by rw [if_neg (by omega)]; exact ⟨rfl, Nat.le_refl _, fun _ _ => rfl⟩)
  · by_cases h2 : 16384 < m
    · simp [h1, h2]
      exact hr _ _ _ (.tup [.sc (.pointer none), Er 20]) (by simp) (by rw [if_neg (by omega)]; exact ⟨rfl, Nat.le_refl _, fun _ _ => rfl⟩)
    · obtain ⟨k, rfl⟩ := Int.eq_ofNat_of_zero_le (show 0 ≤ m by omega)
      have e1 : IntKind.i64.wrap (2 * (k : Int)) = 2 * (k : Int) := wrap64_id (by omega) (by omega)
      obtain ⟨N, hN⟩ : ∃ N, N = 2 * k + 1 := ⟨_, rfl⟩
      have e2 : IntKind.i64.wrap (2 * (k : Int) + 1) = (N : Int) := by rw [wrap64_id (by omega) (by omega)]; omega
      have e3 : (N : Int) * 8 ≤ (roomMax : Nat) := by unfold roomMax; omega
      have e4 : N ≤ roomMax := by unfold roomMax; omega
      have h1' : ¬ (k : Int) < 16 := h1
      have h2' : ¬ 16384 < (k : Int) := h2
      have h1n : ¬ k < 16 := by omega
      have h2n : ¬ 16384 < k := by omega
      simp only [Int.toNat_natCast] at hr
      simp [h1', h2', h1n, h2n, e1, e2, e3, e4]
      refine hr _ _ _ (.tup [.own (n + 1) 0, Er 0]) (by simp) ?_
      rw [if_pos ⟨by omega, by omega⟩]
      refine ⟨n + 1, n, rfl, by omega, Nat.le_refl _, ⟨by omega, fun j hj => by rw [upd_ne _ _ (by omega), upd_ne _ _ (by omega)]⟩, ⟨by simp [cells6, ← hN], ?_, by omega, by omega, by omega, .inr rfl, ⟨by simp; omega, by simp; omega, by simp, by simp [Hp.begin], by simp [Hp.begin]⟩⟩⟩
      rw [upd_ne _ _ (by omega), upd_same, ← hN]
      simp [encs_rep]


end Go.Proofs.Ytfflojbgikfbmaa.Hea
