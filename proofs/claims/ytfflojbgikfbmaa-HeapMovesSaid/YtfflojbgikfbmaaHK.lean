/-
  The heap: records that are moved.
-/
import Derived.Test.YtfflojbgikfbmaaHI
namespace Go.Proofs.Ytfflojbgikfbmaa.Hea
open Go.Proofs.YtfflojbgikfbmaaW.Ah
open Go.Proofs.Ytfflojbgikfbmaa.Sta (U Er eU wrap_nsub wrap_pred load_u)
set_option maxRecDepth 4000
set_option linter.unusedVariables false
set_option linter.unusedSimpArgs false
attribute [local simp] T.t3 T.t4 T.t5 T.t26 T.t34 T.t39 T.t40 T.t62 T.t63 T.t70 T.t93 T.t144 Op.maxDepth List.range List.range.loop
attribute [-simp] appendAV cellsOf cellOk partOk
attribute [local simp] cellsOf_sc cellOk_sc partOk_sc cellsOf_own cellOk_own partOk_own cellsOf_osl cellOk_osl partOk_osl cellsOf_sh cellOk_sh partOk_sh cellsOf_ssl cellOk_ssl partOk_ssl cellsOf_esl cellOk_esl partOk_esl cellsOf_fn cellOk_fn partOk_fn cellsOf_omap cellOk_omap partOk_omap cellsOf_agg partOk_agg cellsOf_slv cellOk_slv partOk_slv

theorem putL_lt {ws l : List Int} {a k : Nat} (ha : a ≤ ws.length) (h : k < a) : (putL ws a l)[k]? = ws[k]? := by
  unfold putL
  rw [List.getElem?_append_left (by simp; omega), List.getElem?_take, if_pos h]

theorem putL_ge {ws l : List Int} {a k : Nat} (ha : a + l.length ≤ ws.length) (h : a + l.length ≤ k) : (putL ws a l)[k]? = ws[k]? := by
  unfold putL
  have e1 : (ws.take a).length = a := by simp; omega
  rw [List.getElem?_append_right (by omega), e1, List.getElem?_append_right (by omega), List.getElem?_drop]
  congr 1
  omega

theorem putL_in {ws l : List Int} {a k : Nat} (ha : a ≤ ws.length) (h : k < l.length) : (putL ws a l)[a + k]? = l[k]? := by
  unfold putL
  have e1 : (ws.take a).length = a := by simp; omega
  rw [List.getElem?_append_right (by omega), e1, List.getElem?_append_left (by omega)]
  congr 1
  omega

theorem putL_part {ws l : List Int} {a c m : Nat} (ha : a + l.length ≤ ws.length) (h : c + m ≤ a ∨ a + l.length ≤ c) : ((putL ws a l).drop c).take m = (ws.drop c).take m := by
  apply List.ext_getElem?
  intro k
  rw [List.getElem?_take, List.getElem?_take]
  split
  · rw [List.getElem?_drop, List.getElem?_drop]
    rcases h with h | h
    · exact putL_lt (by omega) (by omega)
    · exact putL_ge ha (by omega)
  · rfl

/-- A record's words behind its head and forward. -/
def tailV (i b sz : Nat) : AV := if 2 < sz then .osl i (b + 2) (sz - 2) (some (sz - 2)) else .esl true

theorem layS {H : Mem} {n p i : Nat} {c : Option Nat} {h : Hp} (s : St H n p i c h) (hd : Int) {b sz : Nat} (hsz : 2 ≤ sz) (hb : b + sz ≤ 2 * h.half + 1) (hdis : b + sz ≤ h.next ∨ h.next + 2 ≤ b + 2) (hfit : sz ≤ h.room) :
    RunQ Try.prog T.T 94 [.own p 0, U hd, tailV i b sz] H n (fun r H' n' => r = U (2 * h.next : Nat) ∧ n' = n ∧ Step H n p i c H' n' ⟨putL h.ws h.next (hd :: ((2 * h.next : Nat) : Int) :: (h.ws.drop (b + 2)).take (sz - 2)), h.half, h.up, h.next + sz, h.on, h.scan⟩) := by
  have hp := s.hp
  have hlp := s.lp
  have hip := s.ne
  have hok := s.ok
  have hlen := hok.len
  have hto := hok.to
  have hhi := hok.hi
  have hbl := h.begin_le
  have hro : h.room = h.begin + h.half - h.next := rfl
  have hw1 : IntKind.u32.wrap (h.next : Int) = h.next := ptrH h.next (by omega)
  obtain ⟨l, hl⟩ : ∃ l, l = (h.ws.drop (b + 2)).take (sz - 2) := ⟨_, rfl⟩
  have hll : l.length = sz - 2 := by rw [hl]; simp; omega
  rw [← hl]
  have hw2 : IntKind.i64.wrap (2 + (l.length : Int)) = ((2 + l.length : Nat) : Int) := by rw [wrap64_id (by omega) (by omega)]; omega
  obtain ⟨k, hk⟩ : ∃ k, k = 2 + l.length := ⟨_, rfl⟩
  have hksz : k = sz := by omega
  rw [← hk] at hw2
  have hw3 : IntKind.i64.wrap ((h.next : Int) + (k : Int)) = ((h.next + k : Nat) : Int) := by rw [wrap64_id (by omega) (by omega)]; omega
  obtain ⟨e, he⟩ : ∃ e, e = h.next + k := ⟨_, rfl⟩
  rw [← he] at hw3
  have hel : e ≤ 2 * h.half + 1 := by omega
  have hek : h.next ≤ e := by omega
  refine RunQ.ev 999 Try.func94 rfl rfl rfl rfl rfl fun C hr hn => ?_
  simp [hp, hw1]
  refine Stk.callF 999 (ptr h.next (by omega)) rfl rfl rfl (by simp) rfl rfl ?_
  have hwo := s.hw
  have hc := s.hc
  have hlt : h.next < e := by omega
  have hkn : e - h.next = k := by omega
  have heli : (e : Int) ≤ 2 * (h.half : Int) + 1 := by omega
  have h0k : (0 : Int) < k := by omega
  have h1k : (1 : Int) < k := by omega
  have h0kn : 0 < k := by omega
  have h1kn : 1 < k := by omega
  have h2kn : 2 ≤ k := by omega
  obtain ⟨w, hw⟩ : ∃ w : Int, w = ((2 * h.next : Nat) : Int) := ⟨_, rfl⟩
  rw [← hw]
  have s1 : List.take h.next (encs eU h.ws) ++ U hd :: List.drop (h.next + 1) (encs eU h.ws) = encs eU (putL h.ws h.next [hd]) := by
    have := splice_put (ws := h.ws) (l := [hd]) (a := h.next) (by simp; omega)
    rw [show encs eU [hd] = [U hd] from rfl] at this; simpa [splice] using this
  obtain ⟨ws1, hws1⟩ : ∃ ws1, ws1 = putL h.ws h.next [hd] := ⟨_, rfl⟩
  have hl1 : ws1.length = 2 * h.half + 1 := by rw [hws1, putL_len (by simp; omega), hlen]
  have s2 : List.take (h.next + 1) (encs eU ws1) ++ U w :: List.drop (h.next + 1 + 1) (encs eU ws1) = encs eU (putL ws1 (h.next + 1) [w]) := by
    have := splice_put (ws := ws1) (l := [w]) (a := h.next + 1) (by simp; omega)
    rw [show encs eU [w] = [U w] from rfl] at this; simpa [splice] using this
  obtain ⟨ws2, hws2⟩ : ∃ ws2, ws2 = putL ws1 (h.next + 1) [w] := ⟨_, rfl⟩
  have hl2 : ws2.length = 2 * h.half + 1 := by rw [hws2, putL_len (by simp; omega), hl1]
  have s3 : List.take (h.next + 2) (encs eU ws2) ++ (encs eU l ++ List.drop (h.next + 2 + l.length) (encs eU ws2)) = encs eU (putL ws2 (h.next + 2) l) := by
    have := splice_put (ws := ws2) (l := l) (a := h.next + 2) (by omega)
    rw [← this]; simp [splice, encs_map]
  have a1 : ws2 = putL h.ws h.next ([hd] ++ [w]) := by
    rw [hws2, hws1]; exact putL_put (l1 := [hd]) (l2 := [w]) (by simp; omega)
  have hfin : putL ws2 (h.next + 2) l = putL h.ws h.next (hd :: w :: l) := by
    rw [a1]; exact putL_put (l1 := [hd] ++ [w]) (l2 := l) (by simp; omega)
  have hpart : List.take (sz - 2) (List.drop (b + 2) (encs eU ws2)) = encs eU l := by
    have := putL_part (ws := h.ws) (l := [hd] ++ [w]) (a := h.next) (c := b + 2) (m := sz - 2) (by simp; omega) (by simp; omega)
    rw [← a1] at this
    rw [hl, ← this]; simp [encs_map, List.map_take, List.map_drop]
  rw [← hws1] at s1
  rw [← hws2] at s2
  rw [hfin] at s3
  have q1 : h.next ≤ 2 * h.half := by omega
  have q2 : h.next + 1 ≤ 2 * h.half := by omega
  have q3 : h.next + 1 + 1 ≤ 2 * h.half + 1 := by omega
  have h2ki : (2 : Int) ≤ k := by omega
  have q4 : h.next + 2 + l.length ≤ 2 * h.half + 1 := by omega
  have hk2 : k - 2 = l.length := by omega
  have hall : ∀ x ∈ encs eU l, cellOk x = true := by
    intro x hx
    rw [encs_map, List.mem_map] at hx
    obtain ⟨y, _, rfl⟩ := hx; rfl
  have hallt : (∀ (x : AV), x ∈ encs eU l → cellOk x = true) = True := eq_true hall
  have ht2 : List.take l.length (encs eU l) = encs eU l := by rw [List.take_of_length_le (by simp [length_encs])]
  have hww : (2 * (h.next : Int)) = w := by rw [hw]; simp
  have fin : ∀ (t : Nat → AV) (H2 : Mem), t 6 = U w → H2 p = some (.cells [.osl i 0 (2 * h.half + 1) c, I h.half, B h.up, I e, B h.on, I h.scan] 144) → H2 i = some (.cells (encs eU (putL h.ws h.next (hd :: w :: l))) 40) → (∀ x, x ≠ p → x ≠ i → H2 x = H x) → C .ret t H2 n := by
    intro t H2 t6 g1 g2 g3
    refine hr _ _ _ (U w) (by simp [t6]) ⟨by rw [hw], rfl, ⟨by rw [g1, ← hksz, he], by rw [g2, hw], hlp, s.li, hip, s.hc, ⟨hok.lo, hok.hi, ?_, ?_, ?_⟩⟩, Nat.le_refl _, fun x hx hxp hxi => g3 x hxp hxi⟩
    · simp only; rw [putL_len (by simp; omega), hlen]
    · have := hok.bg; show h.begin ≤ h.next + sz; omega
    · show h.next + sz ≤ h.begin + h.half; omega
  clear hr hn
  by_cases hl0 : sz = 2
  · have hlnil : l = [] := List.length_eq_zero_iff.1 (by omega)
    have hk2' : k = 2 := by omega
    have hw2' : IntKind.i64.wrap 2 = (k : Int) := by rw [hk2']; decide
    have h2lt : ¬ 2 < k := by omega
    have hfin0 : ws2 = putL h.ws h.next (hd :: w :: l) := by rw [a1, hlnil]; rfl
    have htv : tailV i b sz = .esl true := by unfold tailV; rw [if_neg (by omega)]
    rw [htv]
    rcases hc with rfl | rfl
    all_goals simp [hp, hw2', hw3, natOk, hwo, hlen, hel, hek, hlt, hkn, heli, h0k, h1k, h0kn, h1kn, h2kn, h2ki, h2lt, s1, s2, hl1, hl2, q1, q2, q3, hip, Ne.symm hip]
    all_goals refine fin _ _ (by simp [hww]) (by simp [Ne.symm hip]) (by rw [upd_ne _ _ hip, upd_same]; rw [hfin0]) (fun x hx hx' => by simp [hx, hx'])
  · have h2lt : 2 < k := by omega
    have htv : tailV i b sz = .osl i (b + 2) (sz - 2) (some (sz - 2)) := by unfold tailV; rw [if_pos (by omega)]
    have hw2s : IntKind.i64.wrap (2 + ((sz - 2 : Nat) : Int)) = (k : Int) := by rw [← hll]; exact hw2
    have q5 : b + 2 + (sz - 2) ≤ 2 * h.half + 1 := by omega
    have hks2 : k - 2 = sz - 2 := by omega
    rw [hll] at q4 s3 ht2
    rw [htv]
    rcases hc with rfl | rfl
    all_goals simp [hp, hw2s, hw3, natOk, hwo, hlen, hel, hek, hlt, hkn, heli, h0k, h1k, h0kn, h1kn, h2kn, h2ki, h2lt, hks2, s1, s2, hl1, hl2, q1, q2, q3, q5, hip, Ne.symm hip, hpart, ht2, hallt, q4, s3, length_encs, hll]
    all_goals refine fin _ _ (by simp [hww]) (by simp [Ne.symm hip]) (by rw [upd_ne _ _ hip, upd_same]) (fun x hx hx' => by simp [hx, hx'])

/-- Does a word's place lie in the half in use? -/
def Hp.usedP (h : Hp) (w : Int) : Bool := decide (h.half < (place w).getD 0) == h.up

theorem usedQ {H : Mem} {n p i : Nat} {c : Option Nat} {h : Hp} (s : St H n p i c h) (w : Int) :
    RunQ Try.prog T.T 115 [.own p 0, U w] H n (fun r H' n' => r = B (h.usedP w) ∧ H' = H ∧ n' = n) := by
  have hp := s.hp
  have hlp := s.lp
  refine RunQ.ev 999 Try.func115 rfl rfl rfl rfl rfl fun C hr hn => ?_
  simp
  refine Stk.callF 999 (atF w) rfl rfl rfl (by simp) rfl rfl ?_
  obtain ⟨a, ha⟩ : ∃ a, a = (place w).getD 0 := ⟨_, rfl⟩
  have hal : a < 4294967296 := by
    rw [ha]
    cases hpl : place w with
    | none => simp
    | some b => have := place_lt hpl; simp; omega
  have w1 : IntKind.i64.wrap (a : Int) = a := wrap64_id (by omega) (by omega)
  have hu : h.usedP w = (decide (h.half < a) == h.up) := by unfold Hp.usedP; rw [ha]
  rw [← ha]
  simp
  refine Stk.regionD 999 [.rd [], .rd [], .rd [], .rd [], .rd [], .rd [], .rd [p], .rd [], .rd [], .rd [], .rd [], .rd [], .rd [p], .rd [], .rd []] none (by kernel_rfl) (by rfl) rfl (by simp [below, *]) rfl ?_
  simp [hp, w1]
  exact hr _ _ _ (B (h.usedP w)) (by simp [hu]) ⟨rfl, rfl, rfl⟩

def lookV : Option (Nat × Int × Int × Int) → AV
  | some (_, x) => .tup [hd x.1 x.2.1 x.2.2, Er 0]
  | none => .tup [hd 0 0 0, Er 22]

theorem lookQ {H : Mem} {n p i : Nat} {c : Option Nat} {h : Hp} (s : St H n p i c h) (w : Int) :
    RunQ Try.prog T.T 52 [.own p 0, U w] H n (fun r H' n' => r = lookV (h.recAt w) ∧ Calm H n H' n') := by
  obtain ⟨Z, hZ⟩ : ∃ Z : Mem, Z = upd H n (some (.cells [.sc (.int .i64 0), .sc (.int .i64 0), .sc (.int .i64 0)] 34)) := ⟨_, rfl⟩
  have hc0 : Calm H n Z (n + 1) := ⟨by omega, fun j hj => by rw [hZ, upd_ne _ _ (by omega)]⟩
  have s0 : St Z (n + 1) p i c h := s.far hc0.1 hc0.2
  have z0 : Z n = some (.cells [.sc (.int .i64 0), .sc (.int .i64 0), .sc (.int .i64 0)] 34) := by rw [hZ, upd_same]
  refine RunQ.ev 999 Try.func52 rfl rfl rfl rfl rfl fun C hr hn => ?_
  simp
  rw [← hZ]
  refine Stk.callS 999 (recQ s0 w) rfl rfl rfl (by simp) ?_
  rintro v H1 n1 ⟨rfl, hc1⟩
  have h1n : H1 n = some (.cells [.sc (.int .i64 0), .sc (.int .i64 0), .sc (.int .i64 0)] 34) := by rw [hc1.2 n (by omega), z0]
  have g1 := hc1.1
  cases hrec : h.recAt w with
  | none =>
    simp [recV, partOf, h1n, show n ≠ n1 by omega]
    exact hr _ _ _ (lookV none) (by simp [lookV, partOf, show n ≠ n1 by omega]) ⟨by rw [hrec], by omega, fun j hj => by rw [upd_ne _ _ (by omega), upd_ne _ _ (by omega), upd_ne _ _ (by omega), hc1.2 j (by omega), hc0.2 j hj]⟩
  | some bx =>
    obtain ⟨b, x⟩ := bx
    simp [recV, partOf, h1n, show n ≠ n1 by omega]
    exact hr _ _ _ (lookV (some (b, x))) (by simp [lookV, partOf, show n ≠ n1 by omega]) ⟨by rw [hrec], by omega, fun j hj => by rw [upd_ne _ _ (by omega), upd_ne _ _ (by omega), upd_ne _ _ (by omega), hc1.2 j (by omega), hc0.2 j hj]⟩

theorem recAt_pl {h : Hp} {w : Int} {b : Nat} {x : Int × Int × Int} (hr : h.recAt w = some (b, x)) : ∃ a, h.pl w = some a ∧ 2 ≤ h.span a ∧ h.pl (h.ws.getD (a + 1) 0) = some b ∧ size x.1 x.2.1 x.2.2 ≤ h.span b := by
  unfold Hp.recAt at hr
  split at hr
  · cases hr
  · rename_i a ha
    split at hr
    · cases hr
    · split at hr
      · cases hr
      · rename_i b2 hb2
        split at hr
        · cases hr
        · split at hr
          · cases hr
          · split at hr
            · rename_i hle
              cases hr
              exact ⟨a, ha, by omega, hb2, hle⟩
            · cases hr

theorem set_cells {l : List Int} {k : Nat} (h : k < l.length) (w : Int) : List.take k (encs eU l) ++ U w :: List.drop (k + 1) (encs eU l) = encs eU (l.set k w) := by
  have := splice_own (e := eU) (z := 1) l [] k h w
  rw [show eU w = [U w] from rfl] at this
  simpa [splice] using this
end Go.Proofs.Ytfflojbgikfbmaa.Hea
