/-
  The heap: Move.
-/
import Derived.Test.YtfflojbgikfbmaaHK
namespace Go.Proofs.Ytfflojbgikfbmaa.Hea
open Go.Proofs.YtfflojbgikfbmaaW.Ah
open Go.Proofs.Ytfflojbgikfbmaa.Sta (U Er eU wrap_nsub wrap_pred load_u)
set_option maxRecDepth 4000
set_option linter.unusedVariables false
set_option linter.unusedSimpArgs false
attribute [local simp] T.t3 T.t4 T.t5 T.t26 T.t34 T.t39 T.t40 T.t62 T.t63 T.t70 T.t93 T.t144 Op.maxDepth List.range List.range.loop
attribute [-simp] appendAV cellsOf cellOk partOk
attribute [local simp] cellsOf_sc cellOk_sc partOk_sc cellsOf_own cellOk_own partOk_own cellsOf_osl cellOk_osl partOk_osl cellsOf_sh cellOk_sh partOk_sh cellsOf_ssl cellOk_ssl partOk_ssl cellsOf_esl cellOk_esl partOk_esl cellsOf_fn cellOk_fn partOk_fn cellsOf_omap cellOk_omap partOk_omap cellsOf_agg partOk_agg cellsOf_slv cellOk_slv partOk_slv

theorem move {H : Mem} {n p i : Nat} {c : Option Nat} {h : Hp} (s : St H n p i c h) {w : Int} {a b : Nat} {x : Int × Int × Int} (hrec : h.recAt w = some (b, x)) (hpl : h.pl w = some a) (hsa : 2 ≤ h.span a) (hdis : b + size x.1 x.2.1 x.2.2 ≤ h.next ∨ h.next + 2 ≤ b + 2) :
    RunQ Try.prog T.T 51 [.own p 0, U w] H n (fun r H' n' =>
      if h.usedP w = true then r = .tup [U w, I 0, Er 0] ∧ Calm H n H' n'
      else if h.usedP (h.ws.getD (a + 1) 0) = true then r = .tup [U (h.ws.getD (a + 1) 0), I 0, Er 0] ∧ Calm H n H' n'
      else if size x.1 x.2.1 x.2.2 ≤ h.room then r = .tup [U (2 * h.next : Nat), I (size x.1 x.2.1 x.2.2), Er 0] ∧ Step H n p i c H' n' ⟨((putL h.ws h.next (hv x.1 x.2.1 x.2.2 :: ((2 * h.next : Nat) : Int) :: (h.ws.drop (b + 2)).take (size x.1 x.2.1 x.2.2 - 2))).set (a + 1) ((2 * h.next : Nat) : Int)).set (b + 1) ((2 * h.next : Nat) : Int), h.half, h.up, h.next + size x.1 x.2.1 x.2.2, h.on, h.scan⟩
      else r = .tup [U 0, I 0, Er 21] ∧ Calm H n H' n') := by
  have hlen := s.ok.len
  have hlp := s.lp
  have hli := s.li
  obtain ⟨b1, b2, b3, hcan, hwb⟩ := recAt_le hrec
  obtain ⟨a1, a2, _⟩ := pl_le hpl
  have hspa := span_le a2
  have hsz := size_can hcan
  have hbl := body_le hcan
  obtain ⟨sz, hsz'⟩ : ∃ sz, sz = size x.1 x.2.1 x.2.2 := ⟨_, rfl⟩
  rw [← hsz'] at b3 hsz hdis ⊢
  refine RunQ.ev 999 Try.func51 rfl rfl rfl rfl rfl fun C hr hn => ?_
  simp
  refine Stk.callS 999 (recQ s w) rfl rfl rfl (by simp) ?_
  rintro v H1 n1 ⟨rfl, hc1⟩
  rw [hrec]
  simp only [recV, ← hsz']
  obtain ⟨Z, hZ⟩ : ∃ Z : Mem, Z = upd (upd H1 n1 (some (.cells [.sc (.int .i64 0), .sc (.int .i64 0), .sc (.int .i64 0)] 34))) n1 (some (.cells [I x.1, I x.2.1, I x.2.2] 34)) := ⟨_, rfl⟩
  have hcZ : Calm H n Z (n1 + 1) := ⟨by have := hc1.1; omega, fun j hj => by have := hc1.1; rw [hZ, upd_ne _ _ (by omega), upd_ne _ _ (by omega), hc1.2 j hj]⟩
  have sZ := s.far hcZ.1 hcZ.2
  have zx : Z n1 = some (.cells [I x.1, I x.2.1, I x.2.2] 34) := by rw [hZ, upd_same]
  simp
  rw [← hZ]
  refine Stk.callS 999 (fromQ sZ w) rfl rfl rfl (by simp) ?_
  rintro v H2 n2 ⟨rfl, rfl, rfl⟩
  rw [hpl]
  simp only [fromV]
  simp
  refine Stk.callS 999 (usedQ sZ w) rfl rfl rfl (by simp) ?_
  rintro v H3 n3 ⟨rfl, rfl, rfl⟩
  cases hu1 : h.usedP w
  · simp only [hu1] at hr
    have hsai : (1 : Int) < h.span a := by omega
    have hsan : 1 < h.span a := by omega
    have hwo := sZ.hw
    have hl1 := ldw (ws := h.ws) (k := a + 1) (by omega)
    obtain ⟨u, hu⟩ : ∃ u, u = h.ws.getD (a + 1) 0 := ⟨_, rfl⟩
    rw [← hu] at hl1 hr
    simp [hsai, hsan, hwo, hl1]
    refine Stk.callS 999 (usedQ sZ u) rfl rfl rfl (by simp) ?_
    rintro v H4 n4 ⟨rfl, rfl, rfl⟩
    cases hu2 : h.usedP u
    · simp only [hu2] at hr
      simp
      refine Stk.callS 999 (room sZ) rfl rfl rfl (by simp) ?_
      rintro v H5 n5 ⟨rfl, hc5⟩
      have g1 := hc1.1
      have g5 := hc5.1
      have hc5' : Calm H n H5 n5 := ⟨by omega, fun j hj => by rw [hc5.2 j (by omega), hcZ.2 j hj]⟩
      have s5 := s.far hc5'.1 hc5'.2
      by_cases hfit : sz ≤ h.room
      · have hni : ¬ h.room < sz := by omega
        have hnii : ¬ (h.room : Int) < sz := by omega
        have hwo5 := s5.hw
        have hl2 := ldw (ws := h.ws) (k := b) (by omega)
        rw [hwb] at hl2
        have h0s : (0 : Int) < sz := by omega
        have h0n : 0 < sz := by omega
        have h2i : (2 : Int) ≤ sz := by omega
        have h2n : 2 ≤ sz := by omega
        simp [hni, hnii]
        refine Stk.regionD 999 [.rd [], .rd [], .rd [], .rd [i], .rd [], .rd [i], .mem [p, i] n5, .rd []] none (by kernel_rfl) (by rfl) rfl (by simp [below, s5.li]) rfl ?_
        have hlay := layS s5 (hv x.1 x.2.1 x.2.2) (b := b) (sz := sz) h2n b3 hdis hfit
        obtain ⟨out, hout⟩ : ∃ out : Int, out = ((2 * h.next : Nat) : Int) := ⟨_, rfl⟩
        obtain ⟨ws6, hws6⟩ : ∃ ws6, ws6 = putL h.ws h.next (hv x.1 x.2.1 x.2.2 :: ((2 * h.next : Nat) : Int) :: (h.ws.drop (b + 2)).take (sz - 2)) := ⟨_, rfl⟩
        rw [← hws6] at hlay hr
        rw [← hout] at hlay hr
        have hl6 : ws6.length = 2 * h.half + 1 := by
          have hbl := h.begin_le
          have hto := s.ok.to
          have hro : h.room = h.begin + h.half - h.next := rfl
          rw [hws6, putL_len (by simp; omega), hlen]
        have k1 : a + 1 + 1 ≤ 2 * h.half + 1 := by omega
        have k2 : b + 1 + 1 ≤ 2 * h.half + 1 := by omega
        have k1' : a + 1 ≤ 2 * h.half := by omega
        have k2' : b + 1 ≤ 2 * h.half := by omega
        have sc1 := set_cells (l := ws6) (k := a + 1) (by omega) out
        have sc2 := set_cells (l := ws6.set (a + 1) out) (k := b + 1) (by simp; omega) out
        have hl6' : (ws6.set (a + 1) out).length = 2 * h.half + 1 := by simp [hl6]
        have h1si : (1 : Int) < sz := by omega
        have h1sn : 1 < sz := by omega
        have hne := s.ne
        have fin : ∀ (t : Nat → AV) H6 H7, t 4 = U out → t 6 = I 0 → t 5 = I sz → Step H5 n5 p i c H6 n5 ⟨ws6, h.half, h.up, h.next + sz, h.on, h.scan⟩ → H7 i = some (.cells (encs eU ((ws6.set (a + 1) out).set (b + 1) out)) 40) → (∀ j, j ≠ i → H7 j = H6 j) → C .ret t H7 n5 := by
          intro t H6 H7 t4 t6 t5 st6 g1 g2
          refine hr _ _ _ (.tup [U out, I sz, Er 0]) (by simp [t4, t5, t6]) ?_
          have st := st6.st
          have hok := st.ok
          simp only [hu1, hu2, Bool.false_eq_true, if_false]
          rw [if_pos hfit]
          refine ⟨trivial, ⟨by rw [g2 p (Ne.symm hne)]; exact st.hp, g1, st.lp, st.li, hne, st.hc, ⟨hok.lo, hok.hi, by simp [hl6], hok.bg, hok.to⟩⟩, hc5'.1, fun j hj hjp hji => by rw [g2 j hji, st6.keep j (by omega) hjp hji, hc5'.2 j hj]⟩
        by_cases h3s : 2 < sz
        · have htv : tailV i b sz = .osl i (b + 2) (sz - 2) (some (sz - 2)) := by unfold tailV; rw [if_pos h3s]
          rw [htv] at hlay
          simp [h0s, h0n, hwo5, hl2, natOk, h2i, h2n, h3s]
          refine Stk.callSD 999 rfl ?_ hlay rfl rfl rfl rfl (by simp) ?_
          · rintro v H6 n6 ⟨_, _, g⟩ j hj hj'
            simp at hj'
            exact g.keep j hj hj'.1 hj'.2
          rintro v H6 n6 ⟨rfl, rfl, st6⟩
          have hwo6 := st6.st.hw
          have h6x : H6 n1 = some (.cells [I x.1, I x.2.1, I x.2.2] 34) := by rw [st6.keep n1 (by omega) (by omega) (by omega), hc5.2 n1 (by omega), zx]
          have hin1 : ¬ n1 = i := by omega
          simp only at hwo6
          simp [hsai, hsan, h1si, h1sn, hwo6, hl6, k1, k2, k1', k2', sc1, sc2, hl6', h6x, hin1, partOf]
          refine Stk.callF 999 (sizeF x.1 x.2.1 x.2.2) rfl rfl rfl (by simp) rfl rfl ?_
          simp [← hsz']
          exact fin _ _ _ (by simp) (by simp) (by simp [hsz']) st6 (by simp) (fun j hj => by simp [hj])
        · have htv : tailV i b sz = .esl true := by unfold tailV; rw [if_neg h3s]
          have hs0 : sz - 2 = 0 := by omega
          rw [htv] at hlay
          simp [h0s, h0n, hwo5, hl2, natOk, h2i, h2n, h3s, hs0]
          refine Stk.callSD 999 rfl ?_ hlay rfl rfl rfl rfl (by simp) ?_
          · rintro v H6 n6 ⟨_, _, g⟩ j hj hj'
            simp at hj'
            exact g.keep j hj hj'.1 hj'.2
          rintro v H6 n6 ⟨rfl, rfl, st6⟩
          have hwo6 := st6.st.hw
          have h6x : H6 n1 = some (.cells [I x.1, I x.2.1, I x.2.2] 34) := by rw [st6.keep n1 (by omega) (by omega) (by omega), hc5.2 n1 (by omega), zx]
          have hin1 : ¬ n1 = i := by omega
          simp only at hwo6
          simp [hsai, hsan, h1si, h1sn, hwo6, hl6, k1, k2, k1', k2', sc1, sc2, hl6', h6x, hin1, partOf]
          refine Stk.callF 999 (sizeF x.1 x.2.1 x.2.2) rfl rfl rfl (by simp) rfl rfl ?_
          simp [← hsz']
          exact fin _ _ _ (by simp) (by simp) (by simp [hsz']) st6 (by simp) (fun j hj => by simp [hj])
      · have hni : h.room < sz := by omega
        have hnii : (h.room : Int) < sz := by omega
        simp [hni, hnii]
        refine hr _ _ _ (.tup [U 0, I 0, Er 21]) (by simp) ?_
        simp [hfit]
        exact hc5'
    · simp only [hu2] at hr
      simp [hsai, hsan, hwo, hl1]
      exact hr _ _ _ (.tup [U u, I 0, Er 0]) (by simp) (by simp; exact hcZ)
  · simp only [hu1] at hr
    simp
    exact hr _ _ _ (.tup [U w, I 0, Er 0]) (by simp) (by simp; exact hcZ)
end Go.Proofs.Ytfflojbgikfbmaa.Hea
