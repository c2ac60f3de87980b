/-
  The heap: its readers, and records that are laid.
-/
import Derived.Test.YtfflojbgikfbmaaHB
namespace Go.Proofs.Ytfflojbgikfbmaa.Hea
open Go.Proofs.YtfflojbgikfbmaaW.Ah
open Go.Proofs.Ytfflojbgikfbmaa.Sta (U Er eU wrap_nsub wrap_pred load_u)
set_option maxRecDepth 4000
set_option linter.unusedVariables false
set_option linter.unusedSimpArgs false
attribute [local simp] T.t3 T.t4 T.t5 T.t26 T.t34 T.t39 T.t40 T.t62 T.t63 T.t70 T.t93 T.t144 Op.maxDepth List.range List.range.loop
attribute [-simp] appendAV cellsOf cellOk partOk
attribute [local simp] cellsOf_sc cellOk_sc partOk_sc cellsOf_own cellOk_own partOk_own cellsOf_osl cellOk_osl partOk_osl cellsOf_sh cellOk_sh partOk_sh cellsOf_ssl cellOk_ssl partOk_ssl cellsOf_esl cellOk_esl partOk_esl cellsOf_fn cellOk_fn partOk_fn cellsOf_omap cellOk_omap partOk_omap cellsOf_agg partOk_agg cellsOf_slv cellOk_slv partOk_slv

theorem begF (H : Mem) (n i : Nat) (c : Option Nat) (h : Hp) (hh : h.half ≤ 16384) :
    RunQ Try.prog T.T 95 [.agg (cells6 i c h)] H n (fun r H' n' => r = I h.begin ∧ Calm H n H' n') := by
  refine RunQ.ev 999 Try.func95 rfl rfl rfl rfl rfl fun C hr hn => ?_
  have hw := wrap_succ h.half (by omega)
  cases hu : h.up
  · simp [hu]
    exact hr _ _ _ (I 1) (by simp) ⟨by simp [Hp.begin, hu], by omega, fun j hj => upd_ne _ _ (by omega)⟩
  · simp [hu, hw]
    exact hr _ _ _ (I (h.half + 1)) (by simp) ⟨by simp [Hp.begin, hu], by omega, fun j hj => upd_ne _ _ (by omega)⟩

theorem Hp.begin_le (h : Hp) : h.begin ≤ h.half + 1 := by unfold Hp.begin; split <;> omega

theorem beginB {H : Mem} {n p i : Nat} {c : Option Nat} {h : Hp} (hp : H p = some (.cells (cells6 i c h) 144)) (hh : h.half ≤ 16384) :
    RunQ Try.prog T.T 40 [.own p 0] H n (fun r H' n' => r = I h.begin ∧ Calm H n H' n') := by
  refine RunQ.ev 999 Try.func40 rfl rfl rfl rfl rfl fun C hr hn => ?_
  simp [hp, partOf]
  refine Stk.callS 999 (begF H n i c h hh) rfl rfl rfl (by simp) ?_
  rintro v H' n' ⟨rfl, hc⟩
  simp
  exact hr _ _ _ (I h.begin) (by simp) ⟨rfl, hc⟩

theorem begin {H : Mem} {n p i : Nat} {c : Option Nat} {h : Hp} (s : St H n p i c h) :
    RunQ Try.prog T.T 40 [.own p 0] H n (fun r H' n' => r = I h.begin ∧ Calm H n H' n') := beginB s.hp s.ok.hi

theorem next {H : Mem} {n p i : Nat} {c : Option Nat} {h : Hp} (s : St H n p i c h) :
    RunQ Try.prog T.T 39 [.own p 0] H n (fun r H' n' => r = I h.next ∧ H' = H ∧ n' = n) := by
  have hp := s.hp
  refine RunQ.ev 999 Try.func39 rfl rfl rfl rfl rfl fun C hr hn => ?_
  simp [hp]
  exact hr _ _ _ (I h.next) (by simp) ⟨rfl, rfl, rfl⟩

theorem room {H : Mem} {n p i : Nat} {c : Option Nat} {h : Hp} (s : St H n p i c h) :
    RunQ Try.prog T.T 38 [.own p 0] H n (fun r H' n' => r = I h.room ∧ Calm H n H' n') := by
  have hp := s.hp
  have hlp := s.lp
  have hbl := h.begin_le
  have hhi := s.ok.hi
  have hto := s.ok.to
  refine RunQ.ev 999 Try.func38 rfl rfl rfl rfl rfl fun C hr hn => ?_
  have hw1 : IntKind.i64.wrap ((h.begin : Int) + h.half) = ((h.begin + h.half : Nat) : Int) := by rw [wrap64_id (by omega) (by omega)]; omega
  have hw2 : IntKind.i64.wrap ((h.begin : Int) + h.half - h.next) = ((h.begin + h.half - h.next : Nat) : Int) := by rw [wrap64_id (by omega) (by omega)]; omega
  simp
  refine Stk.regionD 999 [.rd [], .mem [] n, .rd [], .rd [], .rd [], .rd [], .rd [p], .rd [], .rd [], .rd [], .rd [], .rd [], .rd [p], .rd [], .rd []] none (by kernel_rfl) (by rfl) rfl (by simp [below, *]) rfl ?_
  simp
  refine Stk.callSD 999 rfl (by rintro v H' n' ⟨rfl, g1, g2⟩ j hj _; exact g2 j hj) (begin s) rfl rfl rfl rfl (by simp) ?_
  rintro v H' n' ⟨rfl, g1, g2⟩
  have hp' : H' p = _ := (g2 p hlp).trans hp
  simp [hp', hw1, hw2]
  exact hr _ _ _ (I h.room) (by simp [Hp.room]) ⟨rfl, g1, g2⟩

theorem turn {H : Mem} {n p i : Nat} {c : Option Nat} {h : Hp} (s : St H n p i c h) :
    RunQ Try.prog T.T 42 [.own p 0] H n (fun r H' n' => r = Er 0 ∧ Step H n p i c H' n' ⟨h.ws, h.half, !h.up, (Hp.begin ⟨h.ws, h.half, !h.up, 0, false, 0⟩), false, 0⟩) := by
  have hp := s.hp
  have hlp := s.lp
  have hip := s.ne
  refine RunQ.ev 999 Try.func42 rfl rfl rfl rfl rfl fun C hr hn => ?_
  simp [hp]
  have hbb := fun (Z : Mem) (hz : Z p = some (.cells (cells6 i c ⟨h.ws, h.half, !h.up, h.next, false, 0⟩) 144)) => beginB (n := n) hz s.ok.hi
  refine Stk.callS 999 (hbb _ (by simp [cells6])) rfl rfl rfl (by simp) ?_
  rintro v H' n' ⟨rfl, g1, g2⟩
  have hp' : H' p = some (.cells [.osl i 0 (2 * h.half + 1) c, I h.half, B !h.up, I h.next, B false, I 0] 144) := by rw [g2 p hlp]; simp
  have hi' : H' i = some (.cells (encs eU h.ws) 40) := by rw [g2 i s.li]; simp [s.ne, s.hw]
  simp [hp']
  have hok := s.ok
  refine hr _ _ _ (Er 0) (by simp) ⟨rfl, ⟨by simp [cells6, Hp.begin], by rw [upd_ne _ _ hip, hi'], by omega, by have := s.li; omega, hip, s.hc, ⟨hok.lo, hok.hi, hok.len, Nat.le_refl _, Nat.le_add_right _ _⟩⟩, g1, fun j hj hjp hji => ?_⟩
  rw [upd_ne _ _ hjp, g2 j hj, upd_ne _ _ hjp, upd_ne _ _ hjp, upd_ne _ _ hjp]

theorem ptrH (a : Nat) (h : a < 2147483648) : IntKind.u32.wrap (a : Int) = a := wrapu32_id (by omega) (by omega)

/-- A slice of so many words that lies elsewhere, or is of no words. -/
def Row (H : Mem) (y : AV) (l : List Int) : Prop := (∃ j c, y = .osl j 0 l.length c ∧ ∃ zs, H j = some (.cells (encs eU l ++ zs) 40))

theorem lay {H : Mem} {n p i : Nat} {c : Option Nat} {h : Hp} (s : St H n p i c h) (hd : Int) {j : Nat} {cj : Option Nat} {l : List Int} {zs : List AV} (hj : H j = some (.cells (encs eU l ++ zs) 40)) (hjn : j < n) (hji : j ≠ i) (hjp : j ≠ p) (hfit : l.length + 2 ≤ h.room) :
    RunQ Try.prog T.T 94 [.own p 0, U hd, .osl j 0 l.length cj] H n (fun r H' n' => r = U (2 * h.next : Nat) ∧ n' = n ∧ Step H n p i c H' n' ⟨putL h.ws h.next (hd :: ((2 * h.next : Nat) : Int) :: l), h.half, h.up, h.next + (2 + l.length), h.on, h.scan⟩) := by
  have hp := s.hp
  have hlp := s.lp
  have hip := s.ne
  have hok := s.ok
  have hlen := hok.len
  have hto := hok.to
  have hhi := hok.hi
  have hbl := h.begin_le
  have hro : h.room = h.begin + h.half - h.next := rfl
  have hw1 : IntKind.u32.wrap (h.next : Int) = h.next := ptrH h.next (by omega)
  have hw2 : IntKind.i64.wrap (2 + (l.length : Int)) = ((2 + l.length : Nat) : Int) := by rw [wrap64_id (by omega) (by omega)]; omega
  obtain ⟨k, hk⟩ : ∃ k, k = 2 + l.length := ⟨_, rfl⟩
  rw [← hk] at hw2
  have hw3 : IntKind.i64.wrap ((h.next : Int) + (k : Int)) = ((h.next + k : Nat) : Int) := by rw [wrap64_id (by omega) (by omega)]; omega
  obtain ⟨e, he⟩ : ∃ e, e = h.next + k := ⟨_, rfl⟩
  rw [← he] at hw3
  have hel : e ≤ 2 * h.half + 1 := by omega
  have hek : h.next ≤ e := by omega
  refine RunQ.ev 999 Try.func94 rfl rfl rfl rfl rfl fun C hr hn => ?_
  simp [hp, hw1]
  refine Stk.callF 999 (ptr h.next (by omega)) rfl rfl rfl (by simp) rfl rfl ?_
  have hwo := s.hw
  have hc := s.hc
  have hlt : h.next < e := by omega
  have hkn : e - h.next = k := by omega
  have heli : (e : Int) ≤ 2 * (h.half : Int) + 1 := by omega
  have h0k : (0 : Int) < k := by omega
  have h1k : (1 : Int) < k := by omega
  have h0kn : 0 < k := by omega
  have h1kn : 1 < k := by omega
  have h2kn : 2 ≤ k := by omega
  obtain ⟨w, hw⟩ : ∃ w : Int, w = ((2 * h.next : Nat) : Int) := ⟨_, rfl⟩
  rw [← hw]
  have s1 : List.take h.next (encs eU h.ws) ++ U hd :: List.drop (h.next + 1) (encs eU h.ws) = encs eU (putL h.ws h.next [hd]) := by
    have := splice_put (ws := h.ws) (l := [hd]) (a := h.next) (by simp; omega)
    rw [show encs eU [hd] = [U hd] from rfl] at this; simpa [splice] using this
  obtain ⟨ws1, hws1⟩ : ∃ ws1, ws1 = putL h.ws h.next [hd] := ⟨_, rfl⟩
  have hl1 : ws1.length = 2 * h.half + 1 := by rw [hws1, putL_len (by simp; omega), hlen]
  have s2 : List.take (h.next + 1) (encs eU ws1) ++ U w :: List.drop (h.next + 1 + 1) (encs eU ws1) = encs eU (putL ws1 (h.next + 1) [w]) := by
    have := splice_put (ws := ws1) (l := [w]) (a := h.next + 1) (by simp; omega)
    rw [show encs eU [w] = [U w] from rfl] at this; simpa [splice] using this
  obtain ⟨ws2, hws2⟩ : ∃ ws2, ws2 = putL ws1 (h.next + 1) [w] := ⟨_, rfl⟩
  have hl2 : ws2.length = 2 * h.half + 1 := by rw [hws2, putL_len (by simp; omega), hl1]
  have s3 : List.take (h.next + 2) (encs eU ws2) ++ (encs eU l ++ List.drop (h.next + 2 + l.length) (encs eU ws2)) = encs eU (putL ws2 (h.next + 2) l) := by
    have := splice_put (ws := ws2) (l := l) (a := h.next + 2) (by omega)
    rw [← this]; simp [splice, encs_map]
  have hfin : putL ws2 (h.next + 2) l = putL h.ws h.next (hd :: w :: l) := by
    have a1 : ws2 = putL h.ws h.next ([hd] ++ [w]) := by
      rw [hws2, hws1]; exact putL_put (l1 := [hd]) (l2 := [w]) (by simp; omega)
    rw [a1]; exact putL_put (l1 := [hd] ++ [w]) (l2 := l) (by simp; omega)
  rw [← hws1] at s1
  rw [← hws2] at s2
  rw [hfin] at s3
  have q1 : h.next ≤ 2 * h.half := by omega
  have q2 : h.next + 1 ≤ 2 * h.half := by omega
  have q3 : h.next + 1 + 1 ≤ 2 * h.half + 1 := by omega
  have h2ki : (2 : Int) ≤ k := by omega
  have q4 : h.next + 2 + l.length ≤ 2 * h.half + 1 := by omega
  have hk2 : k - 2 = l.length := by omega
  have ht : List.take l.length (encs eU l ++ zs) = encs eU l := by rw [List.take_left' (by simp [length_encs])]
  have hall : ∀ x ∈ encs eU l, cellOk x = true := by
    intro x hx
    rw [encs_map, List.mem_map] at hx
    obtain ⟨y, _, rfl⟩ := hx; rfl
  have hallt : (∀ (x : AV), x ∈ encs eU l → cellOk x = true) = True := eq_true hall
  have ht2 : List.take l.length (encs eU l) = encs eU l := by rw [List.take_of_length_le (by simp [length_encs])]
  have hlz : l.length ≤ l.length + zs.length := Nat.le_add_right _ _
  have hww : (2 * (h.next : Int)) = w := by rw [hw]; simp
  have hnx : IntKind.i64.wrap ((h.next : Int) + k) = (e : Int) := hw3
  have fin : ∀ (t : Nat → AV) (H2 : Mem), t 6 = U w → H2 p = some (.cells [.osl i 0 (2 * h.half + 1) c, I h.half, B h.up, I e, B h.on, I h.scan] 144) → H2 i = some (.cells (encs eU (putL h.ws h.next (hd :: w :: l))) 40) → (∀ x, x ≠ p → x ≠ i → H2 x = H x) → C .ret t H2 n := by
    intro t H2 t6 g1 g2 g3
    refine hr _ _ _ (U w) (by simp [t6]) ⟨by rw [hw], rfl, ⟨by rw [g1, ← hk, he], by rw [g2, hw], hlp, s.li, hip, s.hc, ⟨hok.lo, hok.hi, ?_, ?_, ?_⟩⟩, Nat.le_refl _, fun x hx hxp hxi => g3 x hxp hxi⟩
    · simp only; rw [putL_len (by simp; omega), hlen]
    · have := hok.bg; show h.begin ≤ h.next + (2 + l.length); omega
    · show h.next + (2 + l.length) ≤ h.begin + h.half; omega
  clear hr hn
  by_cases hl0 : l = []
  · subst hl0
    have hk2' : k = 2 := by simpa using hk
    have hw2' : IntKind.i64.wrap 2 = (k : Int) := by rw [hk2']; decide
    have h2lt : ¬ 2 < k := by omega
    have hfin0 : putL h.ws h.next [hd, w] = ws2 := by rw [← hfin]; unfold putL; simp
    rcases hc with rfl | rfl
    all_goals simp [hp, hw2', hw3, natOk, hwo, hlen, hel, hek, hlt, hkn, heli, h0k, h1k, h0kn, h1kn, h2kn, h2ki, h2lt, s1, s2, hl1, hl2, q1, q2, q3, hj, hji, hip, Ne.symm hip, hjp]
    all_goals refine fin _ _ (by simp [hww]) (by simp [Ne.symm hip]) (by rw [upd_ne _ _ hip, upd_same]; rw [hfin0]) (fun x hx hx' => by simp [hx, hx'])
  · have h2lt : 2 < k := by have := List.length_pos_iff.2 hl0; omega
    rcases hc with rfl | rfl
    all_goals simp [hp, hw2, hw3, natOk, hwo, hlen, hel, hek, hlt, hkn, heli, h0k, h1k, h0kn, h1kn, h2kn, h2ki, h2lt, hk2, s1, s2, hl1, hl2, q1, q2, q3, hj, hji, hip, Ne.symm hip, hjp, ht, ht2, hlz, hallt, q4, s3, length_encs]
    all_goals refine fin _ _ (by simp [hww]) (by simp [Ne.symm hip]) (by rw [upd_ne _ _ hip, upd_same]) (fun x hx hx' => by simp [hx, hx'])
end Go.Proofs.Ytfflojbgikfbmaa.Hea
