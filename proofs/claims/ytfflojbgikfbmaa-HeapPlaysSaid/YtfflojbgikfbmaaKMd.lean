import Derived.Test.YtfflojbgikfbmaaKMc
/-
  A record's bytes: heap.unpacked, Heap.Text.
-/
namespace Go.Proofs.Ytfflojbgikfbmaa.Hea
open Go.Proofs.YtfflojbgikfbmaaW.Ah
open Go.Proofs.Ytfflojbgikfbmaa.Sta (U Er eU wrap_nsub wrap_pred load_u)
set_option maxRecDepth 4000
set_option linter.unusedVariables false
set_option linter.unusedSimpArgs false
attribute [local simp] T.t3 T.t4 T.t5 T.t26 T.t34 T.t35 T.t39 T.t40 T.t62 T.t63 T.t70 T.t93 T.t144 Op.maxDepth List.range List.range.loop
attribute [-simp] appendAV cellsOf cellOk partOk
attribute [local simp] cellsOf_sc cellOk_sc partOk_sc cellsOf_own cellOk_own partOk_own cellsOf_osl cellOk_osl partOk_osl cellsOf_sh cellOk_sh partOk_sh cellsOf_ssl cellOk_ssl partOk_ssl cellsOf_esl cellOk_esl partOk_esl cellsOf_fn cellOk_fn partOk_fn cellsOf_omap cellOk_omap partOk_omap cellsOf_agg partOk_agg cellsOf_slv cellOk_slv partOk_slv

abbrev eY (x : Int) : List AV := [.sc (.int .u8 x)]
instance : Enc eY 1 := ⟨fun _ => rfl⟩
theorem encsY_map (l : List Int) : encs eY l = l.map fun x => .sc (.int .u8 x) := by
  induction l with
  | nil => rfl
  | cons x l ih => rw [encs_cons, ih]; rfl

/-- A byte of words. -/
def unp (l : List Int) (k : Nat) : Int := IntKind.u8.wrap ((l.getD (k / 8) 0).fdiv (2 ^ (min (8 * (k % 8)) 64)))
def unps (l : List Int) (k : Nat) : List Int := (List.range' 0 k).map (unp l)

theorem unpackedQ {H : Mem} {n i o m k : Nat} {c : Option Nat} {ws l : List Int} (hb : H i = some (.cells (encs eU ws) 40)) (hi : i < n) (hl : (ws.drop o).take m = l) (hm : l.length = m) (hk : k ≤ 8 * m) (hk64 : k ≤ 64) (y : AV) (hy : 0 < k → y = .osl i o m c) :
    RunQ Try.prog T.T 121 [y, I k] H n (fun r H' n' => r = .osl n 0 k (some k) ∧ n' = n + 1 ∧ H' n = some (.cells (encs eY (unps l k)) 5) ∧ ∀ j, j < n → H' j = H j) := by
  refine RunQ.ev 999 Try.func121 rfl rfl rfl rfl rfl fun C hr hn => ?_
  have hr1 : k ≤ roomMax := by unfold roomMax; omega
  have hr2 : (k : Int) ≤ (roomMax : Nat) := by omega
  simp [hr1, hr2]
  refine Stk.loop 999 (fun μ t H2 n2 => ∃ q : Nat, q ≤ k ∧ μ = k - q ∧ t 0 = y ∧ t 5 = .osl n 0 k (some k) ∧ t 10 = I k ∧ t 11 = I q ∧ H2 n = some (.cells (encs eY (unps l q ++ List.replicate (k - q) 0)) 5) ∧ (∀ j, j < n → H2 j = H j) ∧ n2 = n + 1) k ?_ ?_
  · exact ⟨0, Nat.zero_le _, rfl, by simp, by simp, by simp, by simp, by simp [encsY_map, unps], fun j hj => upd_ne _ _ (by omega), rfl⟩
  rintro J2 hJ2 μ t H2 n2 ⟨q, hq, rfl, t0, t5, t10, t11, h2, hfr, rfl⟩
  simp [t10, t11]
  refine ⟨fun hlt => ?_, fun hge => ?_⟩
  · have hlt' : q < k := hlt
    have w1 := wrap_succ q (by omega)
    obtain ⟨a, ha⟩ : ∃ a, a = q / 8 := ⟨_, rfl⟩
    obtain ⟨b, hbb⟩ : ∃ b, b = 8 * (q % 8) := ⟨_, rfl⟩
    have w2 : IntKind.i64.wrap ((q : Int).tdiv 8) = (a : Int) := by
      rw [Int.tdiv_eq_ediv_of_nonneg (by omega), wrap64_id (by omega) (by omega)]; omega
    have w2' : IntKind.i64.wrap ((q : Int) / 8) = (a : Int) := by
      rw [wrap64_id (by omega) (by omega)]; omega
    have w3 : IntKind.i64.wrap (8 * ((q : Int).tmod 8)) = (b : Int) := by
      rw [Int.tmod_eq_emod_of_nonneg (by omega), wrap64_id (by omega) (by omega)]; omega
    have w3' : IntKind.i64.wrap (8 * ((q : Int) % 8)) = (b : Int) := by
      rw [wrap64_id (by omega) (by omega)]; omega
    have hqm : a < m := by omega
    have hqmi : (a : Int) < m := by omega
    have hwl : o + a < ws.length := by
      have := congrArg List.length hl
      simp only [List.length_take, List.length_drop] at this
      omega
    have hld := ldw (ws := ws) (k := o + a) hwl
    have hge : ws.getD (o + a) 0 = l.getD a 0 := by
      rw [← hl, List.getD_eq_getElem?_getD, List.getD_eq_getElem?_getD, List.getElem?_take, if_pos hqm, List.getElem?_drop]
    rw [hge] at hld
    have hH2i : H2 i = some (.cells (encs eU ws) 40) := by rw [hfr i hi]; exact hb
    have hyy := hy (by omega)
    subst hyy
    have hn0 : ¬ (b : Int) < 0 := by omega
    have hn0' : (0 : Int) ≤ (b : Int) := by omega
    have hbt : (b : Int).toNat = b := by omega
    have hu : IntKind.u8.wrap ((l.getD a 0).fdiv (2 ^ (min b IntKind.u64.bits))) = unp l q := by rw [ha, hbb]; rfl
    have hlu : q + 1 ≤ (unps l q).length + (k - q) := by simp [unps]; omega
    obtain ⟨W, hW⟩ : ∃ W, W = l.getD a 0 := ⟨_, rfl⟩
    rw [← hW] at hld hu
    have hset : List.take q (encs eY (unps l q ++ List.replicate (k - q) 0)) ++ (.sc (.int .u8 (unp l q)) :: List.drop (q + 1) (encs eY (unps l q ++ List.replicate (k - q) 0))) = encs eY (unps l (q + 1) ++ List.replicate (k - (q + 1)) 0) := by
      have hlen : (unps l q).length = q := by simp [unps]
      have e1 : unps l (q + 1) = unps l q ++ [unp l q] := by simp [unps, List.range'_concat]
      have e2 : List.replicate (k - q) (0 : Int) = 0 :: List.replicate (k - (q + 1)) 0 := by
        rw [show k - q = (k - (q + 1)) + 1 by omega, List.replicate_succ]
      rw [e1, e2, encs_append, encs_append, encs_append, encs_cons]
      have hle : (encs eY (unps l q)).length = q := by rw [encsY_map, List.length_map, hlen]
      rw [List.take_left' hle, show q + 1 = (encs eY (unps l q)).length + 1 by rw [hle], List.drop_append]
      simp [List.drop_length, encsY_map, hlen]
    simp [t0, t5, t11, hH2i, hld, w1, w2, w3, w2', w3', hqm, hqmi, hlt', h2, hn0, hn0', hu, hlu, hset]
    exact ⟨k - (q + 1), by omega, hJ2 _ _ _ _ ⟨q + 1, hlt', rfl, by simp [t0], by simp [t5], by simp [t10], by simp [w1], by simp, fun j hj => by rw [upd_ne _ _ (by omega), hfr j hj], rfl⟩⟩
  · have : q = k := by omega
    subst this
    simp [t5]
    exact hr _ _ _ (.osl n 0 q (some q)) (by simp) ⟨rfl, rfl, by rw [h2]; simp, hfr⟩

theorem textQ {H : Mem} {n p i : Nat} {c : Option Nat} {h : Hp} (s : St H n p i c h) {w : Int} {b : Nat} {x : Int × Int × Int} (hrec : h.recAt w = some (b, x)) (h1 : x.1 = 1) {l : List Int} (hl : (h.ws.drop (b + 2)).take (body x.1 x.2.2) = l) (hll : l.length = body x.1 x.2.2) :
    RunQ Try.prog T.T 63 [.own p 0, U w] H n (fun r H' n' => ∃ j, r = .tup [.osl j 0 x.2.2.toNat (some x.2.2.toNat), Er 0] ∧ n ≤ j ∧ j < n' ∧ H' j = some (.cells (encs eY (unps l x.2.2.toNat)) 5) ∧ Calm H n H' n') := by
  obtain ⟨b1, b2, b3, hcan, _⟩ := recAt_le hrec
  have hsz := size_can hcan
  have hcz : 0 ≤ x.2.2 ∧ x.2.2 ≤ 64 := by unfold Can at hcan; omega
  obtain ⟨k, hk⟩ := Int.eq_ofNat_of_zero_le hcz.1
  have hbd : body x.1 x.2.2 = (k + 7) / 8 := by simp [body, h1, hk]
  obtain ⟨sz, hsz'⟩ : ∃ sz, sz = size x.1 x.2.1 x.2.2 := ⟨_, rfl⟩
  rw [hk]
  refine RunQ.ev 999 Try.func63 rfl rfl rfl rfl rfl fun C hr hn => ?_
  simp
  refine Stk.callS 999 (recQ s w) rfl rfl rfl (by simp) ?_
  rintro v H1 n1 ⟨rfl, hc1⟩
  rw [hrec]
  have hszz : size 1 x.2.1 (k : Int) = sz := by rw [hsz', h1, hk]
  simp [recV, partOf, h1, hk, hszz]
  refine Stk.regionD 999 [.rd [], .rd [i], .rd [], .rd [n1], .mem [] (n1 + 1), .rd [], .rd []] none (by kernel_rfl) (by rfl) rfl (by have := s.li; have := hc1.1; simp [below]; omega) rfl ?_
  have hm : l.length = (k + 7) / 8 := by omega
  have hle : sz = 2 + (k + 7) / 8 := by omega
  obtain ⟨H2, hH2⟩ : ∃ H2 : Mem, H2 = upd (upd H1 n1 (some (.cells [.sc (.int .i64 0), .sc (.int .i64 0), .sc (.int .i64 0)] 34))) n1 (some (.cells [I 1, I x.2.1, I k] 34)) := ⟨_, rfl⟩
  have hc2 : Calm H n H2 (n1 + 1) := ⟨by have := hc1.1; omega, fun j hj => by have := hc1.1; rw [hH2, upd_ne _ _ (by omega), upd_ne _ _ (by omega), hc1.2 j hj]⟩
  have s2 := s.far hc2.1 hc2.2
  have h2n : H2 n1 = some (.cells [I 1, I x.2.1, I k] 34) := by rw [hH2, upd_same]
  have q1 : (2 : Int) ≤ sz := by omega
  have q3 : 2 ≤ sz := by omega
  have hun := fun (y : AV) (hy : 0 < k → y = AV.osl i (b + 2) ((k + 7) / 8) (some ((k + 7) / 8))) => unpackedQ (k := k) s2.hw s2.li (by rw [hbd] at hl; exact hl) hm (by omega) (by omega) y hy
  by_cases k0 : k = 0
  · have q2 : ¬ 2 < sz := by omega
    simp [natOk, q1, q2, q3]
    rw [← hH2]
    refine Stk.callSD 999 rfl ?_ (hun (.esl true) (fun h => by omega)) rfl rfl rfl rfl (by simp; omega) ?_
    · rintro v H' n' ⟨_, _, _, hf⟩ j hj _
      exact hf j hj
    rintro v H3 n3 ⟨rfl, rfl, h3, hf3⟩
    simp
    exact hr _ _ _ (.tup [.osl (n1 + 1) 0 k (some k), Er 0]) (by simp) ⟨n1 + 1, rfl, by have := hc1.1; omega, by omega, h3, by have := hc1.1; omega, fun j hj => by have := hc1.1; rw [hf3 j (by omega), hc2.2 j hj]⟩
  · have q2 : 2 < sz := by omega
    have hsz2 : sz - 2 = (k + 7) / 8 := by omega
    simp [natOk, q1, q2, q3]
    rw [← hH2]
    refine Stk.callSD 999 rfl ?_ (hun _ (fun h => rfl)) rfl rfl rfl rfl (by simp [hsz2]) ?_
    · rintro v H' n' ⟨_, _, _, hf⟩ j hj _
      exact hf j hj
    rintro v H3 n3 ⟨rfl, rfl, h3, hf3⟩
    simp
    exact hr _ _ _ (.tup [.osl (n1 + 1) 0 k (some k), Er 0]) (by simp) ⟨n1 + 1, rfl, by have := hc1.1; omega, by omega, h3, by have := hc1.1; omega, fun j hj => by have := hc1.1; rw [hf3 j (by omega), hc2.2 j hj]⟩
end Go.Proofs.Ytfflojbgikfbmaa.Hea

/-
  Heap.Dump, and the law's comparison of bytes.
-/
namespace Go.Proofs.Ytfflojbgikfbmaa.Hea
open Go.Proofs.YtfflojbgikfbmaaW.Ah
open Go.Proofs.Ytfflojbgikfbmaa.Sta (U Er eU wrap_nsub wrap_pred load_u)
set_option maxRecDepth 4000
set_option linter.unusedVariables false
set_option linter.unusedSimpArgs false
attribute [local simp] T.t3 T.t4 T.t5 T.t9 T.t26 T.t34 T.t35 T.t39 T.t40 T.t62 T.t63 T.t70 T.t93 T.t144 Op.maxDepth List.range List.range.loop
attribute [-simp] appendAV cellsOf cellOk partOk
attribute [local simp] cellsOf_sc cellOk_sc partOk_sc cellsOf_own cellOk_own partOk_own cellsOf_osl cellOk_osl partOk_osl cellsOf_sh cellOk_sh partOk_sh cellsOf_ssl cellOk_ssl partOk_ssl cellsOf_esl cellOk_esl partOk_esl cellsOf_fn cellOk_fn partOk_fn cellsOf_omap cellOk_omap partOk_omap cellsOf_agg partOk_agg cellsOf_slv cellOk_slv partOk_slv

theorem cloneQ {H : Mem} {n i : Nat} {c : Option Nat} {ws : List Int} (hb : H i = some (.cells (encs eU ws) 40)) (hi : i < n) (h0 : ¬ ws.length = 0) (hl : ws.length ≤ 65536) :
    RunQ Try.prog T.T 85 [.osl i 0 ws.length c] H n (fun r H' n' => r = .osl (n + 1) 0 ws.length none ∧ n' = n + 2 ∧ H' (n + 1) = some (.cells (encs eU ws) 40) ∧ ∀ j, j < n → H' j = H j) := by
  refine RunQ.ev 999 Try.func85 rfl rfl rfl rfl rfl fun C hr hn' => ?_
  have hne : ¬ i = n := by omega
  have hall : (encs eU ws).all cellOk = true := by
    rw [List.all_eq_true]
    intro x hx
    rw [encs_map, List.mem_map] at hx
    obtain ⟨y, _, rfl⟩ := hx
    rfl
  have htk : List.take ws.length (encs eU ws) = encs eU ws := List.take_of_length_le (by simp [length_encs])
  have hr1 : ws.length * 8 ≤ 70368744177664 := by omega
  have hr2 : ws.length ≤ 70368744177664 := by omega
  have hnx : ¬ ws = [] := fun e => h0 (by rw [e]; rfl)
  simp [appendAV, hb, hne, roomMax, hr1, hr2, hnx, hall, -cellOk, -List.all_eq_true, htk]
  exact hr _ _ _ (.osl (n + 1) 0 ws.length none) (by simp) ⟨rfl, rfl, by simp, fun j hj => by simp [show j ≠ n by omega, show j ≠ n + 1 by omega]⟩

theorem dumpQ {H : Mem} {n p i : Nat} {c : Option Nat} {h : Hp} (s : St H n p i c h) :
    RunQ Try.prog T.T 65 [.own p 0] H n (fun r H' n' => ∃ j, r = .agg [.osl j 0 (2 * h.half + 1) none, I h.half, B h.up, I h.next, B h.on, I h.scan] ∧ n ≤ j ∧ j < n' ∧ H' j = some (.cells (encs eU h.ws) 40) ∧ Calm H n H' n') := by
  have hp := s.hp
  have hlp := s.lp
  have hli := s.li
  have hlen := s.ok.len
  have hhi := s.ok.hi
  refine RunQ.ev 999 Try.func65 rfl rfl rfl rfl rfl fun C hr hn => ?_
  have hpn : ¬ p = n := by omega
  have hpn1 : ¬ p = n + 1 := by omega
  simp [hp, hpn, hpn1, partOf]
  refine Stk.gen (fun t2 H2 n2 => t2 3 = .own (n + 1) 0 ∧ t2 2 = .own n 0 ∧ t2 11 = .own (n + 1) 0 ∧ t2 12 = .osl i 0 (2 * h.half + 1) c ∧ H2 (n + 1) = some (.cells (cells6 i c h) 93) ∧ (∃ cs, H2 n = some (.cells cs 93) ∧ cs.length = 6) ∧ (∀ j, j < n → H2 j = H j) ∧ n2 = n + 2) ⟨by simp, by simp, by simp, by simp, by simp, ⟨_, by simp; rfl, rfl⟩, fun j hj => by simp [show j ≠ n by omega, show j ≠ n + 1 by omega], rfl⟩ ?_
  rintro t2 H2 n2 ⟨t23, t22, t211, t212, h21, ⟨cs, h2n, hcs⟩, hfr, rfl⟩
  have hw2 : H2 i = some (.cells (encs eU h.ws) 40) := by rw [hfr i hli]; exact s.hw
  have hc := cloneQ (n := n + 2) (c := c) hw2 (by omega) (by omega) (by omega)
  rw [hlen] at hc
  refine Stk.callS 999 hc rfl rfl rfl (by simp [t212]) ?_
  rintro v H3 n3 ⟨rfl, rfl, h3, hf3⟩
  have h31 : H3 (n + 1) = some (.cells (cells6 i c h) 93) := by rw [hf3 _ (by omega), h21]
  have h3n : H3 n = some (.cells cs 93) := by rw [hf3 _ (by omega), h2n]
  have hcs6 : 6 ≤ cs.length := by omega
  have hdr : List.drop 6 cs = [] := List.drop_eq_nil_of_le (by omega)
  simp [t23, t22, h31, h3n, partOf, splice, hcs6, hdr]
  exact hr _ _ _ (.agg [.osl (n + 2 + 1) 0 (2 * h.half + 1) none, I h.half, B h.up, I h.next, B h.on, I h.scan]) (by simp [t22, partOf]) ⟨n + 2 + 1, rfl, by omega, by omega, by rw [upd_ne _ _ (by omega), upd_ne _ _ (by omega), h3], by omega, fun j hj => by rw [upd_ne _ _ (by omega), upd_ne _ _ (by omega), hf3 j (by omega), hfr j hj]⟩

theorem u8s_encs (l : List Int) : u8s (encs eY l) = some l := by
  induction l with
  | nil => rfl
  | cons x l ih => rw [encs_cons]; show u8s (.sc (.int .u8 x) :: encs eY l) = _; rw [u8s, ih]; rfl

theorem bytesF (a : List Int) (fa fb : Bool) : RunF Try.prog T.T 64 [.ssl (encs eY a) a.length fa, .ssl (encs eY a) a.length fb] (B true) := by
  have h1 : u8s (List.take a.length (encs eY a)) = some a := by
    rw [List.take_of_length_le (by simp [length_encs]), u8s_encs]
  refine RunF.ev 999 Try.func64 rfl rfl rfl rfl rfl fun C hr hn => ?_
  simp [h1, isU8]
  exact hr _ _ _ (by simp)
end Go.Proofs.Ytfflojbgikfbmaa.Hea
