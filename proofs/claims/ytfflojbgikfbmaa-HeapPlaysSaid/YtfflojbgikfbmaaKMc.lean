import Derived.Test.YtfflojbgikfbmaaKMb
/-
  The statement HeapRooms: its loop.
-/
namespace Go.Proofs.Ytfflojbgikfbmaa.Hea
open Go.Proofs.YtfflojbgikfbmaaW.Ah
open Go.Proofs.Ytfflojbgikfbmaa.Sta (U Er eU wrap_nsub wrap_pred load_u)
set_option maxRecDepth 4000
set_option linter.unusedVariables false
set_option linter.unusedSimpArgs false
attribute [local simp] T.t3 T.t4 T.t5 T.t26 T.t34 T.t39 T.t40 T.t62 T.t63 T.t70 T.t93 T.t144 Op.maxDepth List.range List.range.loop
attribute [-simp] appendAV cellsOf cellOk partOk
attribute [local simp] cellsOf_sc cellOk_sc partOk_sc cellsOf_own cellOk_own partOk_own cellsOf_osl cellOk_osl partOk_osl cellsOf_sh cellOk_sh partOk_sh cellsOf_ssl cellOk_ssl partOk_ssl cellsOf_esl cellOk_esl partOk_esl cellsOf_fn cellOk_fn partOk_fn cellsOf_omap cellOk_omap partOk_omap cellsOf_agg partOk_agg cellsOf_slv cellOk_slv partOk_slv

/-- A head: its kind, tag, count. -/
abbrev eH (x : Int × Int × Int) : List AV := [I x.1, I x.2.1, I x.2.2]
instance : Enc eH 3 := ⟨fun _ => rfl⟩

noncomputable def body7 : Code := Try.f7.body.getD .skip

theorem rL (xs : List (Int × Int × Int)) (m : Nat) (hm : 16 ≤ m ∧ m ≤ 400) (hx : xs.length ≤ 200) (C : Cont) (hC : ∀ t H n, resOf T.T Try.f7.results.toList ⟨t, H, n⟩ = some (B true) → C .ret t H n) (K : (Nat → AV) → Mem → Nat → Prop) (hK : ∀ t H n p i c h, t 0 = I m → t 5 = .own p 0 → St H n p i c h → h.half = m → h.up = false → Stk Try.prog T.T 130 (codes ((seqs body7).drop 11)) t H n C)
    (p i : Nat) (c : Option Nat) (h : Hp) (t : Nat → AV) (H : Mem) (n : Nat) (t0 : t 0 = I m) (t1 : t 1 = .ssl (encs eH xs) xs.length false) (t5 : t 5 = .own p 0) (t7 : t 7 = I m) (st : St H n p i c h) (hh : h.half = m) (hu : h.up = false) (hr0 : h.room = m) :
    Stk Try.prog T.T 130 (codes ((seqs body7).drop 9)) t H n C := by
  refine Stk.cut (l' := (seqs body7).drop 11) [_, _] rfl fun J hJ => ?_
  refine evS_sound (f := 999) ?_
  simp [codes, t1]
  refine Stk.loop 999 (fun μ t H2 n2 => ∃ (q : Nat) (h : Hp), q ≤ xs.length ∧ μ = xs.length - q ∧ t 0 = I m ∧ t 5 = .own p 0 ∧ t 7 = I h.room ∧ t 48 = .ssl (encs eH xs) xs.length false ∧ t 49 = I xs.length ∧ t 50 = I q ∧ St H2 n2 p i c h ∧ h.half = m ∧ h.up = false) xs.length ?_ ?_
  · exact ⟨0, h, Nat.zero_le _, rfl, by simp [t0], by simp [t5], by simp [t7, hr0], by simp [t1], by simp, by simp, st, hh, hu⟩
  clear st t0 t1 t5 t7 hh hu hr0
  rintro J2 hJ2 μ t H2 n2 ⟨q, h, hq, rfl, t0, t5, t7, t48, t49, t50, st, hh, hu⟩
  simp [t48, t49, t50]
  refine ⟨fun hlt => ?_, fun hge => ?_⟩
  · have hld : partOf T.T 34 (List.drop (q * 3) (encs eH xs)) 0 = some (.agg (eH xs[q])) := part_agg (e := eH) (z := 3) T.t34 rfl rfl xs q hlt
    obtain ⟨⟨k, g, z⟩, hx⟩ : ∃ x, x = xs[q] := ⟨_, rfl⟩
    rw [← hx] at hld
    simp [t48, t49, t50, hlt, hld]
    refine Stk.callF 999 (sizeR k g z) rfl rfl rfl (by simp) rfl rfl ?_
    obtain ⟨sz, hsz⟩ : ∃ sz, sz = size k g z := ⟨_, rfl⟩
    rw [← hsz]
    simp
    refine Stk.regionD 999 [.rd [], .rd [n2], .rd [], .rd [], .rd [], .mem [] (n2 + 1), .mem [p, i] (n2 + 1), .rd [], .rd [], .rd [], .rd [], .rd []] none (by kernel_rfl) (by rfl) rfl (by simp [below, *]) rfl ?_
    have wq := wrap_succ q (by omega)
    have hlt' : q + 1 ≤ xs.length := hlt
    obtain ⟨lb, hlb⟩ : ∃ lb, lb = sz - 2 := ⟨_, rfl⟩
    have hsz8 : sz ≤ 10 := by
      rw [hsz]; unfold size; split
      · rename_i hc; have := body_le hc; omega
      · omega
    have hmax : IntKind.i64.wrap ((if (sz : Int) < 2 then 2 else (sz : Int)) - 2) = (lb : Int) := by
      split
      · rw [wrap64_id (by omega) (by omega)]; omega
      · rw [wrap64_id (by omega) (by omega)]; omega
    have hr1 : (lb : Int) * 8 ≤ (roomMax : Nat) := by unfold roomMax; omega
    have hr2 : lb ≤ roomMax := by unfold roomMax; omega
    obtain ⟨M0, hM0⟩ : ∃ M0 : Mem, M0 = upd (upd H2 n2 (some (.cells [.sc (.int .i64 0), .sc (.int .i64 0), .sc (.int .i64 0)] 34))) n2 (some (.cells (eH (k, g, z)) 34)) := ⟨_, rfl⟩
    obtain ⟨M, hM⟩ : ∃ M : Mem, M = upd M0 (n2 + 1) (some (.cells (List.replicate lb (.sc (.int .u64 0))) 40)) := ⟨_, rfl⟩
    have hMj : ∀ j, j < n2 → M j = H2 j := fun j hj => by rw [hM, upd_ne _ _ (by omega), hM0, upd_ne _ _ (by omega), upd_ne _ _ (by omega)]
    have stM := st.far (n' := n2 + 2) (by omega) hMj
    have hlp := st.lp
    have hli := st.li
    have hput := put stM k g z (j := n2 + 1) (cj := some lb) (l := List.replicate lb 0) (zs := []) (by rw [hM, upd_same, encs_rep, List.append_nil]) (by omega) (by omega) (by omega)
    simp only [List.length_replicate, ← hsz] at hput
    rw [← hM0]
    have hM0n : M0 n2 = some (.cells (eH (k, g, z)) 34) := by rw [hM0, upd_same]
    simp [hmax, hr1, hr2, hM0n, partOf, t5]
    rw [← hM]
    refine ⟨fun j hj e => absurd e (by omega), ?_⟩
    have hcond : Can k g z ∧ lb = body k z ↔ Can k g z := ⟨fun h => h.1, fun h => ⟨h, by rw [hlb, hsz, size_can h]; omega⟩⟩
    have hcond2 : Can k g z ∧ lb = body k z ∧ sz ≤ h.room ↔ Can k g z ∧ sz ≤ h.room := ⟨fun h => ⟨h.1, h.2.2⟩, fun h => ⟨h.1, (hcond.2 h.1).2, h.2⟩⟩
    simp only [hcond, hcond2] at hput
    refine Stk.callSD 6 rfl ?_ hput rfl rfl rfl rfl (by simp [t5]) ?_
    · intro v H' n' hz j hj hj'
      simp at hj'
      split at hz
      · exact hz.2.keep j (by omega) hj'.1 hj'.2
      · exact hz.2.2 j (by omega)
    intro v H3 n3 hz
    by_cases hcan : Can k g z
    · have hsz2 : 2 ≤ sz := by rw [hsz, size_can hcan]; omega
      by_cases hfit : sz ≤ h.room
      · rw [if_pos ⟨hcan, hfit⟩] at hz
        obtain ⟨rfl, st3⟩ := hz
        obtain ⟨h3, hh3⟩ : ∃ h3 : Hp, h3 = ⟨putL h.ws h.next (hv k g z :: ((2 * h.next : Nat) : Int) :: List.replicate lb 0), h.half, h.up, h.next + sz, h.on, h.scan⟩ := ⟨_, rfl⟩
        rw [← hh3] at st3
        have hb3 : h3.begin = h.begin := by rw [hh3]; rfl
        have hn3 : h3.next = h.next + sz := by rw [hh3]
        have hro : h.room = h.begin + h.half - h.next := rfl
        have hro3 : h3.room = h3.begin + h.half - h3.next := by rw [hh3]; rfl
        have hto := st.ok.to
        have hbg := st.ok.bg
        have hbe : h.begin = 1 := by unfold Hp.begin; rw [hu]; rfl
        obtain ⟨R, hR⟩ : ∃ R, R = h.room - sz := ⟨_, rfl⟩
        have hR3 : h3.room = R := by omega
        have hsz0 : ((sz : Int) == 0) = false := by simp; omega
        have hgt : ¬ h.room < sz := by omega
        have hgti : ¬ (h.room : Int) < sz := by omega
        have w0 : IntKind.i64.wrap ((h.room : Int) - sz) = (R : Int) := by rw [wrap64_id (by omega) (by omega)]; omega
        have w1 : IntKind.i64.wrap ((h3.next : Int) - h3.begin) = (m : Int) - R := by rw [wrap64_id (by omega) (by omega)]; omega
        have w2 : IntKind.i64.wrap ((m : Int) - R) = (m : Int) - R := by rw [wrap64_id (by omega) (by omega)]
        have w3 : IntKind.i64.wrap ((h3.next : Int) - sz) = (h.next : Int) := by rw [wrap64_id (by omega) (by omega)]; omega
        have w4 : IntKind.u32.wrap (h.next : Int) = h.next := ptrH h.next (by omega)
        have hz0 : ¬ sz = 0 := by omega
        simp [t7]
        (refine evS_sound (f := 12) ?_; simp [t0, t5, t7, t50, wq, hz0, hsz0, hgt, hgti, w0, w1, w2, w3, w4, hR3])
        (refine evS_sound (f := 12) ?_; simp [t0, t5, t7, t50, wq, hz0, hsz0, hgt, hgti, w0, w1, w2, w3, w4, hR3])
        (refine evS_sound (f := 12) ?_; simp [t0, t5, t7, t50, wq, hz0, hsz0, hgt, hgti, w0, w1, w2, w3, w4, hR3])
        have hroom := room st3.st
        simp only [hR3] at hroom
        refine Stk.callS 6 hroom rfl rfl rfl (by simp [t5]) ?_
        rintro v H4 n4 ⟨rfl, hc4⟩
        have st4 := st3.st.far hc4.1 hc4.2
        simp [t0, t5, t7, t50, wq, hz0, hsz0, hgt, hgti, w0, w1, w2, w3, w4, hR3]
        (refine evS_sound (f := 6) ?_; simp [t0, t5, t7, t50, wq, hz0, hsz0, hgt, hgti, w0, w1, w2, w3, w4, hR3])
        refine Stk.callS 6 (next st4) rfl rfl rfl (by simp [t5]) ?_
        rintro v H5 n5 ⟨rfl, rfl, rfl⟩
        simp [t0, t5, t7, t50, wq, hz0, hsz0, hgt, hgti, w0, w1, w2, w3, w4, hR3]
        refine Stk.callS 6 (begin st4) rfl rfl rfl (by simp [t5]) ?_
        rintro v H6 n6 ⟨rfl, hc6⟩
        have st6 := st4.far hc6.1 hc6.2
        simp [t0, t5, t7, t50, wq, hz0, hsz0, hgt, hgti, w0, w1, w2, w3, w4, hR3]
        (refine evS_sound (f := 6) ?_; simp [t0, t5, t7, t50, wq, hz0, hsz0, hgt, hgti, w0, w1, w2, w3, w4, hR3])
        (refine evS_sound (f := 6) ?_; simp [t0, t5, t7, t50, wq, hz0, hsz0, hgt, hgti, w0, w1, w2, w3, w4, hR3])
        (refine evS_sound (f := 6) ?_; simp [t0, t5, t7, t50, wq, hz0, hsz0, hgt, hgti, w0, w1, w2, w3, w4, hR3])
        refine Stk.callS 6 (next st6) rfl rfl rfl (by simp [t5]) ?_
        rintro v H7 n7 ⟨rfl, rfl, rfl⟩
        simp [t0, t5, t7, t50, wq, hz0, hsz0, hgt, hgti, w0, w1, w2, w3, w4, hR3]
        refine Stk.callF 6 (ptr h.next (by omega)) rfl rfl rfl (by simp [t0, t5, t7, t50, wq, hz0, hsz0, hgt, hgti, w0, w1, w2, w3, w4, hR3]) rfl rfl ?_
        simp [t0, t5, t7, t50, wq, hz0, hsz0, hgt, hgti, w0, w1, w2, w3, w4, hR3]
        refine evS_sound (f := 99) ?_
        simp [t0, t5, t7, t50, wq, hz0, hsz0, hgt, hgti, w0, w1, w2, w3, w4, hR3]
        exact ⟨xs.length - (q + 1), by omega, hJ2 _ _ _ _ ⟨q + 1, h3, hlt', rfl, by simp [t0], by simp [t5], by simp [hR3], by simp [t48], by simp [t49], by simp, st6, by rw [hh3]; exact hh, by rw [hh3]; exact hu⟩⟩
      · rw [if_neg (fun h => hfit h.2), if_pos hcan] at hz
        obtain ⟨rfl, hc3⟩ := hz
        have st3 := stM.far hc3.1 hc3.2
        have hro : h.room = h.begin + h.half - h.next := rfl
        have hto := st.ok.to
        have hbg := st.ok.bg
        have hbe : h.begin = 1 := by unfold Hp.begin; rw [hu]; rfl
        have hsz0 : ((sz : Int) == 0) = false := by simp; omega
        have hgt : h.room < sz := by omega
        have hgti : (h.room : Int) < sz := by omega
        have w1 : IntKind.i64.wrap ((h.next : Int) - h.begin) = (m : Int) - h.room := by rw [wrap64_id (by omega) (by omega)]; omega
        have w2 : IntKind.i64.wrap ((m : Int) - h.room) = (m : Int) - h.room := by rw [wrap64_id (by omega) (by omega)]
        have hz0 : ¬ sz = 0 := by omega
        simp [t7]
        (refine evS_sound (f := 12) ?_; simp [t0, t5, t7, t50, wq, hsz0, hgt, hgti, w1, w2, hz0])
        (refine evS_sound (f := 12) ?_; simp [t0, t5, t7, t50, wq, hsz0, hgt, hgti, w1, w2, hz0])
        (refine evS_sound (f := 12) ?_; simp [t0, t5, t7, t50, wq, hsz0, hgt, hgti, w1, w2, hz0])
        refine Stk.callS 6 (room st3) rfl rfl rfl (by simp [t5]) ?_
        rintro v H4 n4 ⟨rfl, hc4⟩
        have st4 := st3.far hc4.1 hc4.2
        simp [t0, t5, t7, t50, wq, hsz0, hgt, hgti, w1, w2, hz0]
        (refine evS_sound (f := 6) ?_; simp [t0, t5, t7, t50, wq, hsz0, hgt, hgti, w1, w2, hz0])
        refine Stk.callS 6 (next st4) rfl rfl rfl (by simp [t5]) ?_
        rintro v H5 n5 ⟨rfl, rfl, rfl⟩
        simp [t0, t5, t7, t50, wq, hsz0, hgt, hgti, w1, w2, hz0]
        refine Stk.callS 6 (begin st4) rfl rfl rfl (by simp [t5]) ?_
        rintro v H6 n6 ⟨rfl, hc6⟩
        have st6 := st4.far hc6.1 hc6.2
        simp [t0, t5, t7, t50, wq, hsz0, hgt, hgti, w1, w2, hz0]
        (refine evS_sound (f := 6) ?_; simp [t0, t5, t7, t50, wq, hsz0, hgt, hgti, w1, w2, hz0])
        (refine evS_sound (f := 6) ?_; simp [t0, t5, t7, t50, wq, hsz0, hgt, hgti, w1, w2, hz0])
        refine evS_sound (f := 99) ?_
        simp [t0, t5, t7, t50, wq, hsz0, hgt, hgti, w1, w2, hz0]
        exact ⟨xs.length - (q + 1), by omega, hJ2 _ _ _ _ ⟨q + 1, h, hlt', rfl, by simp [t0], by simp [t5], by simp [t7], by simp [t48], by simp [t49], by simp, st6, hh, hu⟩⟩
    · have hsz0' : sz = 0 := by rw [hsz]; unfold size; rw [if_neg hcan]
      rw [if_neg (fun h => hcan h.1), if_neg hcan] at hz
      obtain ⟨rfl, hc3⟩ := hz
      have st3 := stM.far hc3.1 hc3.2
      have hro : h.room = h.begin + h.half - h.next := rfl
      have hto := st.ok.to
      have hbg := st.ok.bg
      have hbe : h.begin = 1 := by unfold Hp.begin; rw [hu]; rfl
      have hsz0 : ((sz : Int) == 0) = true := by simp [hsz0']
      have hgt : True := trivial
      have hgti : True := trivial
      have w1 : IntKind.i64.wrap ((h.next : Int) - h.begin) = (m : Int) - h.room := by rw [wrap64_id (by omega) (by omega)]; omega
      have w2 : IntKind.i64.wrap ((m : Int) - h.room) = (m : Int) - h.room := by rw [wrap64_id (by omega) (by omega)]
      have hz0 : sz = 0 := hsz0'
      simp [t7]
      (refine evS_sound (f := 12) ?_; simp [t0, t5, t7, t50, wq, hsz0, hgt, hgti, w1, w2, hz0])
      (refine evS_sound (f := 12) ?_; simp [t0, t5, t7, t50, wq, hsz0, hgt, hgti, w1, w2, hz0])
      refine Stk.callS 6 (room st3) rfl rfl rfl (by simp [t5]) ?_
      rintro v H4 n4 ⟨rfl, hc4⟩
      have st4 := st3.far hc4.1 hc4.2
      simp [t0, t5, t7, t50, wq, hsz0, hgt, hgti, w1, w2, hz0]
      (refine evS_sound (f := 6) ?_; simp [t0, t5, t7, t50, wq, hsz0, hgt, hgti, w1, w2, hz0])
      refine Stk.callS 6 (next st4) rfl rfl rfl (by simp [t5]) ?_
      rintro v H5 n5 ⟨rfl, rfl, rfl⟩
      simp [t0, t5, t7, t50, wq, hsz0, hgt, hgti, w1, w2, hz0]
      refine Stk.callS 6 (begin st4) rfl rfl rfl (by simp [t5]) ?_
      rintro v H6 n6 ⟨rfl, hc6⟩
      have st6 := st4.far hc6.1 hc6.2
      simp [t0, t5, t7, t50, wq, hsz0, hgt, hgti, w1, w2, hz0]
      (refine evS_sound (f := 6) ?_; simp [t0, t5, t7, t50, wq, hsz0, hgt, hgti, w1, w2, hz0])
      (refine evS_sound (f := 6) ?_; simp [t0, t5, t7, t50, wq, hsz0, hgt, hgti, w1, w2, hz0])
      refine evS_sound (f := 99) ?_
      simp [t0, t5, t7, t50, wq, hsz0, hgt, hgti, w1, w2, hz0]
      exact ⟨xs.length - (q + 1), by omega, hJ2 _ _ _ _ ⟨q + 1, h, hlt', rfl, by simp [t0], by simp [t5], by simp [t7], by simp [t48], by simp [t49], by simp, st6, hh, hu⟩⟩
  · have : q = xs.length := by omega
    exact hJ _ _ _ (hK _ _ _ p i c h t0 t5 st hh hu)
end Go.Proofs.Ytfflojbgikfbmaa.Hea

/-
  The statement HeapMoves: records that are made.
-/
namespace Go.Proofs.Ytfflojbgikfbmaa.Hea
open Go.Proofs.YtfflojbgikfbmaaW.Ah
open Go.Proofs.Ytfflojbgikfbmaa.Sta (U Er eU wrap_nsub wrap_pred load_u)
set_option maxRecDepth 4000
set_option linter.unusedVariables false
set_option linter.unusedSimpArgs false
attribute [local simp] T.t3 T.t4 T.t5 T.t26 T.t34 T.t39 T.t40 T.t62 T.t63 T.t70 T.t93 T.t144 Op.maxDepth List.range List.range.loop
attribute [-simp] appendAV cellsOf cellOk partOk
attribute [local simp] cellsOf_sc cellOk_sc partOk_sc cellsOf_own cellOk_own partOk_own cellsOf_osl cellOk_osl partOk_osl cellsOf_sh cellOk_sh partOk_sh cellsOf_ssl cellOk_ssl partOk_ssl cellsOf_esl cellOk_esl partOk_esl cellsOf_fn cellOk_fn partOk_fn cellsOf_omap cellOk_omap partOk_omap cellsOf_agg partOk_agg cellsOf_slv cellOk_slv partOk_slv

def immV (n : Int) : Int := IntKind.u64.wrap (((IntKind.u64.wrap (IntKind.u64.wrap n * 2 ^ min 1 IntKind.u64.bits) % 2 ^ IntKind.u64.bits).toNat ||| ((1 : Int) % 2 ^ IntKind.u64.bits).toNat : Nat) : Int)

theorem imm (n : Int) : RunF Try.prog T.T 50 [I n] (U (immV n)) := by
  refine RunF.ev 999 Try.func50 rfl rfl rfl rfl rfl fun C hr hn => ?_
  simp
  exact hr _ _ _ (by simp [immV])

theorem moreH {H : Mem} {n : Nat} {o : Option Nat} {xs : List (Int × Int × Int)} (ho : YtfflojbgikfbmaaW.Ah.Own H 34 eH o xs) (hn : ∀ i, o = some i → i < n) (hl : xs.length ≤ 65536) (x : Int × Int × Int) :
    ∃ i H' n', appendAV T.T (upd H n (some (.cells (eH x) 34))) (n + 1) 62 (slv o xs.length) (.osl n 0 1 (some 1)) = some (.osl i 0 (xs.length + 1) none, H', n') ∧ YtfflojbgikfbmaaW.Ah.Own H' 34 eH (some i) (xs ++ [x]) ∧ n ≤ n' ∧ (o = some i ∨ n ≤ i) ∧ i < n' ∧ (∀ j, j < n → o ≠ some j → H' j = H j) := by
  obtain ⟨o', H', n', e1, o1, le1, f1, k1⟩ := append_own (e := eH) (z := 3) T.t62 rfl T.t34 rfl (by decide) rfl (by decide) (H := upd H n (some (.cells (eH x) 34))) (n := n + 1) (o := o) (xs := xs)
    (ho.mono fun i hi => upd_ne _ _ (by have := hn i hi; omega)) (fun i hi => by have := hn i hi; omega) (y := .osl n 0 1 (some 1)) [x] (by simp [encs, eH]) rfl (by simp [roomMax]; omega) (by simp [roomMax]; omega)
  cases o' with
  | none => simp [YtfflojbgikfbmaaW.Ah.Own] at o1
  | some i =>
    have := f1 i rfl
    refine ⟨i, H', n', by simpa using e1, o1, by omega, ?_, this.2, fun j hj hne => by rw [k1 j (by omega) hne, upd_ne _ _ (by omega)]⟩
    rcases this.1 with h | h
    · exact .inl h
    · exact .inr (by omega)

/-- A word tells a record that stands there. -/
def RecOk (h : Hp) (w : Int) (x : Int × Int × Int) : Prop := ∃ a : Nat, w = ((2 * a : Nat) : Int) ∧ 1 ≤ a ∧ Can x.1 x.2.1 x.2.2 ∧ a + size x.1 x.2.1 x.2.2 ≤ h.next ∧ h.ws[a]? = some (hv x.1 x.2.1 x.2.2) ∧ h.ws[a + 1]? = some ((2 * a : Nat) : Int)

theorem RecOk.lay {h : Hp} {w : Int} {x : Int × Int × Int} (r : RecOk h w x) (hok : h.Ok) (l : List Int) (k : Nat) : RecOk ⟨putL h.ws h.next l, h.half, h.up, h.next + k, h.on, h.scan⟩ w x := by
  obtain ⟨a, e1, e2, e3, e4, e5, e6⟩ := r
  have hsz := size_can e3
  have hlen := hok.len
  have hto := hok.to
  have hb := h.begin_le
  exact ⟨a, e1, e2, e3, by show a + _ ≤ h.next + k; omega, by show (putL h.ws h.next l)[a]? = _; rw [putL_lt (by omega) (by omega)]; exact e5, by show (putL h.ws h.next l)[a + 1]? = _; rw [putL_lt (by omega) (by omega)]; exact e6⟩

theorem RecOk.new {h : Hp} (hok : h.Ok) (x : Int × Int × Int) (hc : Can x.1 x.2.1 x.2.2) (l : List Int) (hl : l.length = size x.1 x.2.1 x.2.2 - 2) (hfit : size x.1 x.2.1 x.2.2 ≤ h.room) (h1 : 1 ≤ h.next) :
    RecOk ⟨putL h.ws h.next (hv x.1 x.2.1 x.2.2 :: ((2 * h.next : Nat) : Int) :: l), h.half, h.up, h.next + size x.1 x.2.1 x.2.2, h.on, h.scan⟩ ((2 * h.next : Nat) : Int) x := by
  have hsz := size_can hc
  have hlen := hok.len
  have hto := hok.to
  have hb := h.begin_le
  have hro : h.room = h.begin + h.half - h.next := rfl
  refine ⟨h.next, rfl, h1, hc, Nat.le_refl _, ?_, ?_⟩
  · have := putL_in (ws := h.ws) (l := hv x.1 x.2.1 x.2.2 :: ((2 * h.next : Nat) : Int) :: l) (a := h.next) (k := 0) (by omega) (by simp)
    simpa using this
  · have := putL_in (ws := h.ws) (l := hv x.1 x.2.1 x.2.2 :: ((2 * h.next : Nat) : Int) :: l) (a := h.next) (k := 1) (by omega) (by simp)
    simpa using this
end Go.Proofs.Ytfflojbgikfbmaa.Hea

/-
  The statement HeapMoves: what becomes of a record that is moved.
-/
namespace Go.Proofs.Ytfflojbgikfbmaa.Hea
open Go.Proofs.YtfflojbgikfbmaaW.Ah
open Go.Proofs.Ytfflojbgikfbmaa.Sta (U Er eU wrap_nsub wrap_pred load_u tmod_nat)
set_option maxRecDepth 4000
set_option linter.unusedVariables false
set_option linter.unusedSimpArgs false
attribute [local simp] T.t3 T.t4 T.t5 T.t26 T.t34 T.t39 T.t40 T.t62 T.t63 T.t70 T.t93 T.t144 Op.maxDepth List.range List.range.loop
attribute [-simp] appendAV cellsOf cellOk partOk
attribute [local simp] cellsOf_sc cellOk_sc partOk_sc cellsOf_own cellOk_own partOk_own cellsOf_osl cellOk_osl partOk_osl cellsOf_sh cellOk_sh partOk_sh cellsOf_ssl cellOk_ssl partOk_ssl cellsOf_esl cellOk_esl partOk_esl cellsOf_fn cellOk_fn partOk_fn cellsOf_omap cellOk_omap partOk_omap cellsOf_agg partOk_agg cellsOf_slv cellOk_slv partOk_slv

theorem rd_hv {k t c : Int} (h : Can k t c) : rd (hv k t c) = some (k, t, c) := by
  have e1 : hv k t c / 65536 = k := by unfold hv; unfold Can at h; omega
  have e2 : hv k t c / 256 % 256 = t := by unfold hv; unfold Can at h; omega
  have e3 : hv k t c % 256 = c := by unfold hv; unfold Can at h; omega
  unfold rd
  rw [e1, e2, e3, if_pos]
  exact ⟨by unfold hv; unfold Can at h; omega, by unfold hv; unfold Can at h; omega, h⟩

theorem place_two {a : Nat} (h1 : 1 ≤ a) (h2 : a < 4294967296) : place ((2 * a : Nat) : Int) = some a := by
  unfold place
  rw [if_neg (by omega)]
  congr 1
  omega

theorem pl_two {h : Hp} {a : Nat} (h1 : 1 ≤ a) (h2 : a ≤ 2 * h.half) (h3 : h.half ≤ 16384) : h.pl ((2 * a : Nat) : Int) = some a := by
  unfold Hp.pl; rw [place_two h1 (by omega)]; simp [h2]

theorem recAt_of {h : Hp} {w : Int} {a b : Nat} {x : Int × Int × Int} (h1 : h.pl w = some a) (h2 : 2 ≤ h.span a) (h3 : h.pl (h.ws.getD (a + 1) 0) = some b) (h4 : 2 ≤ h.span b) (h5 : rd (h.ws.getD b 0) = some x) (h6 : size x.1 x.2.1 x.2.2 ≤ h.span b) : h.recAt w = some (b, x) := by
  unfold Hp.recAt
  rw [h1]; simp only
  rw [if_neg (by omega), h3]; simp only
  rw [if_neg (by omega), h5]; simp only
  rw [if_pos h6]

/-- The heap behind Turn. -/
def turned (h : Hp) : Hp := ⟨h.ws, h.half, true, h.half + 1, false, 0⟩
/-- And behind a record was moved. -/
def moved (h : Hp) (A sz : Nat) (v : Int) (l : List Int) : Hp := ⟨((putL h.ws (h.half + 1) (v :: ((2 * (h.half + 1) : Nat) : Int) :: l)).set (A + 1) ((2 * (h.half + 1) : Nat) : Int)).set (A + 1) ((2 * (h.half + 1) : Nat) : Int), h.half, true, h.half + 1 + sz, false, 0⟩

theorem getD_of {l : List Int} {k : Nat} {v : Int} (h : l[k]? = some v) : l.getD k 0 = v := by simp [List.getD_eq_getElem?_getD, h]

structure Facts (h : Hp) (w : Int) (A : Nat) (x : Int × Int × Int) : Prop where
  w : w = ((2 * A : Nat) : Int)
  A1 : 1 ≤ A
  can : Can x.1 x.2.1 x.2.2
  fit : A + size x.1 x.2.1 x.2.2 ≤ h.half + 1
  wA : h.ws[A]? = some (hv x.1 x.2.1 x.2.2)
  wA1 : h.ws[A + 1]? = some ((2 * A : Nat) : Int)
  len : h.ws.length = 2 * h.half + 1
  lo : 16 ≤ h.half
  hi : h.half ≤ 16384

theorem turned_rec {h : Hp} {w : Int} {A : Nat} {x : Int × Int × Int} (f : Facts h w A x) : (turned h).recAt w = some (A, x) ∧ (turned h).pl w = some A ∧ 2 ≤ (turned h).span A := by
  have hsz := size_can f.can
  have h1 := f.A1
  have h2 := f.fit
  have h3 := f.hi
  have hs : (turned h).span A = h.half + 1 - A := by unfold Hp.span turned; simp only; rw [if_pos (by omega)]
  have e2 : (turned h).pl w = some A := by rw [f.w]; exact pl_two f.A1 (by show A ≤ 2 * h.half; omega) f.hi
  refine ⟨recAt_of e2 (by omega) ?_ (by omega) ?_ (by omega), e2, by omega⟩
  · show (turned h).pl (h.ws.getD (A + 1) 0) = _
    rw [getD_of f.wA1]; exact pl_two f.A1 (by show A ≤ 2 * h.half; omega) f.hi
  · show rd (h.ws.getD A 0) = _
    rw [getD_of f.wA]; exact rd_hv f.can

theorem moved_at {h : Hp} {w : Int} {A : Nat} {x : Int × Int × Int} (f : Facts h w A x) (l : List Int) (hl : l.length = size x.1 x.2.1 x.2.2 - 2) (hroom : size x.1 x.2.1 x.2.2 ≤ h.half) :
    (moved h A (size x.1 x.2.1 x.2.2) (hv x.1 x.2.1 x.2.2) l).ws.getD (A + 1) 0 = ((2 * (h.half + 1) : Nat) : Int) ∧ (moved h A (size x.1 x.2.1 x.2.2) (hv x.1 x.2.1 x.2.2) l).ws.getD (h.half + 1) 0 = hv x.1 x.2.1 x.2.2 ∧ (moved h A (size x.1 x.2.1 x.2.2) (hv x.1 x.2.1 x.2.2) l).ws.getD (h.half + 1 + 1) 0 = ((2 * (h.half + 1) : Nat) : Int) := by
  have hsz := size_can f.can
  have h1 := f.A1
  have h2 := f.fit
  have h3 := f.hi
  have hlen := f.len
  obtain ⟨Q, hQ⟩ : ∃ Q, Q = putL h.ws (h.half + 1) (hv x.1 x.2.1 x.2.2 :: ((2 * (h.half + 1) : Nat) : Int) :: l) := ⟨_, rfl⟩
  have hQl : Q.length = 2 * h.half + 1 := by rw [hQ, putL_len (by simp; omega), hlen]
  have q0 : Q[h.half + 1]? = some (hv x.1 x.2.1 x.2.2) := by
    have := putL_in (ws := h.ws) (l := hv x.1 x.2.1 x.2.2 :: ((2 * (h.half + 1) : Nat) : Int) :: l) (a := h.half + 1) (k := 0) (by omega) (by simp)
    rw [hQ]; simpa using this
  have q1 : Q[h.half + 1 + 1]? = some ((2 * (h.half + 1) : Nat) : Int) := by
    have := putL_in (ws := h.ws) (l := hv x.1 x.2.1 x.2.2 :: ((2 * (h.half + 1) : Nat) : Int) :: l) (a := h.half + 1) (k := 1) (by omega) (by simp)
    rw [hQ]; simpa using this
  have hm : (moved h A (size x.1 x.2.1 x.2.2) (hv x.1 x.2.1 x.2.2) l).ws = (Q.set (A + 1) ((2 * (h.half + 1) : Nat) : Int)).set (A + 1) ((2 * (h.half + 1) : Nat) : Int) := by rw [hQ]; rfl
  refine ⟨getD_of ?_, getD_of ?_, getD_of ?_⟩ <;> rw [hm]
  · rw [List.getElem?_set_self (by simp; omega)]
  · rw [List.getElem?_set_ne (by omega), List.getElem?_set_ne (by omega), q0]
  · rw [List.getElem?_set_ne (by omega), List.getElem?_set_ne (by omega), q1]

theorem moved_rec {h : Hp} {w : Int} {A : Nat} {x : Int × Int × Int} (f : Facts h w A x) (l : List Int) (hl : l.length = size x.1 x.2.1 x.2.2 - 2) (hroom : size x.1 x.2.1 x.2.2 ≤ h.half) (h2' : Hp) (hh : h2' = moved h A (size x.1 x.2.1 x.2.2) (hv x.1 x.2.1 x.2.2) l) :
    h2'.recAt w = some (h.half + 1, x) ∧ h2'.pl w = some A ∧ 2 ≤ h2'.span A ∧ h2'.recAt ((2 * (h.half + 1) : Nat) : Int) = some (h.half + 1, x) ∧ h2'.pl ((2 * (h.half + 1) : Nat) : Int) = some (h.half + 1) ∧ 2 ≤ h2'.span (h.half + 1) ∧ h2'.usedP w = false ∧ h2'.usedP ((2 * (h.half + 1) : Nat) : Int) = true ∧ h2'.ws.getD (A + 1) 0 = ((2 * (h.half + 1) : Nat) : Int) := by
  obtain ⟨m1, m2, m3⟩ := moved_at f l hl hroom
  rw [← hh] at m1 m2 m3
  have hsz := size_can f.can
  have h1 := f.A1
  have h2 := f.fit
  have h3 := f.hi
  have h4 := f.lo
  have hhalf : h2'.half = h.half := by rw [hh]; rfl
  have hup : h2'.up = true := by rw [hh]; rfl
  have hs1 : h2'.span A = h.half + 1 - A := by unfold Hp.span; rw [hhalf, if_pos (by omega)]
  have hs2 : h2'.span (h.half + 1) = h.half := by unfold Hp.span; rw [hhalf, if_neg (by omega)]; omega
  have p1 : h2'.pl w = some A := by rw [f.w]; exact pl_two f.A1 (by omega) (by omega)
  have p2 : h2'.pl ((2 * (h.half + 1) : Nat) : Int) = some (h.half + 1) := pl_two (by omega) (by omega) (by omega)
  refine ⟨recAt_of p1 (by omega) (by rw [m1]; exact p2) (by omega) (by rw [m2]; exact rd_hv f.can) (by omega), p1, by omega, recAt_of p2 (by omega) (by rw [m3]; exact p2) (by omega) (by rw [m2]; exact rd_hv f.can) (by omega), p2, by omega, ?_, ?_, m1⟩
  · unfold Hp.usedP; rw [f.w, place_two f.A1 (by omega), hhalf, hup]; simp; omega
  · unfold Hp.usedP; rw [place_two (by omega) (by omega), hhalf, hup]; simp
end Go.Proofs.Ytfflojbgikfbmaa.Hea

/-
  Records are made of rows that nobody writes.
-/
namespace Go.Proofs.Ytfflojbgikfbmaa.Hea
open Go.Proofs.YtfflojbgikfbmaaW.Ah
open Go.Proofs.Ytfflojbgikfbmaa.Sta (U Er eU wrap_nsub wrap_pred load_u)
set_option maxRecDepth 4000
set_option linter.unusedVariables false
set_option linter.unusedSimpArgs false
attribute [local simp] T.t3 T.t4 T.t5 T.t26 T.t34 T.t39 T.t40 T.t62 T.t63 T.t70 T.t93 T.t144 Op.maxDepth List.range List.range.loop
attribute [-simp] appendAV cellsOf cellOk partOk
attribute [local simp] cellsOf_sc cellOk_sc partOk_sc cellsOf_own cellOk_own partOk_own cellsOf_osl cellOk_osl partOk_osl cellsOf_sh cellOk_sh partOk_sh cellsOf_ssl cellOk_ssl partOk_ssl cellsOf_esl cellOk_esl partOk_esl cellsOf_fn cellOk_fn partOk_fn cellsOf_omap cellOk_omap partOk_omap cellsOf_agg partOk_agg cellsOf_slv cellOk_slv partOk_slv

theorem layX {H : Mem} {n p i : Nat} {c : Option Nat} {h : Hp} (s : St H n p i c h) (hd : Int) (l : List Int) (fl : Bool) (hfit : l.length + 2 ≤ h.room) :
    RunQ Try.prog T.T 94 [.own p 0, U hd, .ssl (encs eU l) l.length fl] H n (fun r H' n' => r = U (2 * h.next : Nat) ∧ n' = n ∧ Step H n p i c H' n' ⟨putL h.ws h.next (hd :: ((2 * h.next : Nat) : Int) :: l), h.half, h.up, h.next + (2 + l.length), h.on, h.scan⟩) := by
  have hp := s.hp
  have hlp := s.lp
  have hip := s.ne
  have hok := s.ok
  have hlen := hok.len
  have hto := hok.to
  have hhi := hok.hi
  have hbl := h.begin_le
  have hro : h.room = h.begin + h.half - h.next := rfl
  have hw1 : IntKind.u32.wrap (h.next : Int) = h.next := ptrH h.next (by omega)
  have hw2 : IntKind.i64.wrap (2 + (l.length : Int)) = ((2 + l.length : Nat) : Int) := by rw [wrap64_id (by omega) (by omega)]; omega
  obtain ⟨k, hk⟩ : ∃ k, k = 2 + l.length := ⟨_, rfl⟩
  rw [← hk] at hw2
  have hw3 : IntKind.i64.wrap ((h.next : Int) + (k : Int)) = ((h.next + k : Nat) : Int) := by rw [wrap64_id (by omega) (by omega)]; omega
  obtain ⟨e, he⟩ : ∃ e, e = h.next + k := ⟨_, rfl⟩
  rw [← he] at hw3
  have hel : e ≤ 2 * h.half + 1 := by omega
  have hek : h.next ≤ e := by omega
  refine RunQ.ev 999 Try.func94 rfl rfl rfl rfl rfl fun C hr hn => ?_
  simp [hp, hw1]
  refine Stk.callF 999 (ptr h.next (by omega)) rfl rfl rfl (by simp) rfl rfl ?_
  have hwo := s.hw
  have hc := s.hc
  have hlt : h.next < e := by omega
  have hkn : e - h.next = k := by omega
  have heli : (e : Int) ≤ 2 * (h.half : Int) + 1 := by omega
  have h0k : (0 : Int) < k := by omega
  have h1k : (1 : Int) < k := by omega
  have h0kn : 0 < k := by omega
  have h1kn : 1 < k := by omega
  have h2kn : 2 ≤ k := by omega
  obtain ⟨w, hw⟩ : ∃ w : Int, w = ((2 * h.next : Nat) : Int) := ⟨_, rfl⟩
  rw [← hw]
  have s1 : List.take h.next (encs eU h.ws) ++ U hd :: List.drop (h.next + 1) (encs eU h.ws) = encs eU (putL h.ws h.next [hd]) := by
    have := splice_put (ws := h.ws) (l := [hd]) (a := h.next) (by simp; omega)
    rw [show encs eU [hd] = [U hd] from rfl] at this; simpa [splice] using this
  obtain ⟨ws1, hws1⟩ : ∃ ws1, ws1 = putL h.ws h.next [hd] := ⟨_, rfl⟩
  have hl1 : ws1.length = 2 * h.half + 1 := by rw [hws1, putL_len (by simp; omega), hlen]
  have s2 : List.take (h.next + 1) (encs eU ws1) ++ U w :: List.drop (h.next + 1 + 1) (encs eU ws1) = encs eU (putL ws1 (h.next + 1) [w]) := by
    have := splice_put (ws := ws1) (l := [w]) (a := h.next + 1) (by simp; omega)
    rw [show encs eU [w] = [U w] from rfl] at this; simpa [splice] using this
  obtain ⟨ws2, hws2⟩ : ∃ ws2, ws2 = putL ws1 (h.next + 1) [w] := ⟨_, rfl⟩
  have hl2 : ws2.length = 2 * h.half + 1 := by rw [hws2, putL_len (by simp; omega), hl1]
  have s3 : List.take (h.next + 2) (encs eU ws2) ++ (encs eU l ++ List.drop (h.next + 2 + l.length) (encs eU ws2)) = encs eU (putL ws2 (h.next + 2) l) := by
    have := splice_put (ws := ws2) (l := l) (a := h.next + 2) (by omega)
    rw [← this]; simp [splice, encs_map]
  have hfin : putL ws2 (h.next + 2) l = putL h.ws h.next (hd :: w :: l) := by
    have a1 : ws2 = putL h.ws h.next ([hd] ++ [w]) := by
      rw [hws2, hws1]; exact putL_put (l1 := [hd]) (l2 := [w]) (by simp; omega)
    rw [a1]; exact putL_put (l1 := [hd] ++ [w]) (l2 := l) (by simp; omega)
  rw [← hws1] at s1
  rw [← hws2] at s2
  rw [hfin] at s3
  have q1 : h.next ≤ 2 * h.half := by omega
  have q2 : h.next + 1 ≤ 2 * h.half := by omega
  have q3 : h.next + 1 + 1 ≤ 2 * h.half + 1 := by omega
  have h2ki : (2 : Int) ≤ k := by omega
  have q4 : h.next + 2 + l.length ≤ 2 * h.half + 1 := by omega
  have hk2 : k - 2 = l.length := by omega
  have hall : ∀ x ∈ encs eU l, cellOk x = true := by
    intro x hx
    rw [encs_map, List.mem_map] at hx
    obtain ⟨y, _, rfl⟩ := hx; rfl
  have hallt : (∀ (x : AV), x ∈ encs eU l → cellOk x = true) = True := eq_true hall
  have ht2 : List.take l.length (encs eU l) = encs eU l := by rw [List.take_of_length_le (by simp [length_encs])]
  have hww : (2 * (h.next : Int)) = w := by rw [hw]; simp
  have hnx : IntKind.i64.wrap ((h.next : Int) + k) = (e : Int) := hw3
  have fin : ∀ (t : Nat → AV) (H2 : Mem), t 6 = U w → H2 p = some (.cells [.osl i 0 (2 * h.half + 1) c, I h.half, B h.up, I e, B h.on, I h.scan] 144) → H2 i = some (.cells (encs eU (putL h.ws h.next (hd :: w :: l))) 40) → (∀ x, x ≠ p → x ≠ i → H2 x = H x) → C .ret t H2 n := by
    intro t H2 t6 g1 g2 g3
    refine hr _ _ _ (U w) (by simp [t6]) ⟨by rw [hw], rfl, ⟨by rw [g1, ← hk, he], by rw [g2, hw], hlp, s.li, hip, s.hc, ⟨hok.lo, hok.hi, ?_, ?_, ?_⟩⟩, Nat.le_refl _, fun x hx hxp hxi => g3 x hxp hxi⟩
    · simp only; rw [putL_len (by simp; omega), hlen]
    · have := hok.bg; show h.begin ≤ h.next + (2 + l.length); omega
    · show h.next + (2 + l.length) ≤ h.begin + h.half; omega
  clear hr hn
  by_cases hl0 : l = []
  · subst hl0
    have hk2' : k = 2 := by simpa using hk
    have hw2' : IntKind.i64.wrap 2 = (k : Int) := by rw [hk2']; decide
    have h2lt : ¬ 2 < k := by omega
    have hfin0 : putL h.ws h.next [hd, w] = ws2 := by rw [← hfin]; unfold putL; simp
    rcases hc with rfl | rfl
    all_goals simp [hp, hw2', hw3, natOk, hwo, hlen, hel, hek, hlt, hkn, heli, h0k, h1k, h0kn, h1kn, h2kn, h2ki, h2lt, s1, s2, hl1, hl2, q1, q2, q3, hip, Ne.symm hip]
    all_goals refine fin _ _ (by simp [hww]) (by simp [Ne.symm hip]) (by rw [upd_ne _ _ hip, upd_same]; rw [hfin0]) (fun x hx hx' => by simp [hx, hx'])
  · have h2lt : 2 < k := by have := List.length_pos_iff.2 hl0; omega
    rcases hc with rfl | rfl
    all_goals simp [hp, hw2, hw3, natOk, hwo, hlen, hel, hek, hlt, hkn, heli, h0k, h1k, h0kn, h1kn, h2kn, h2ki, h2lt, hk2, s1, s2, hl1, hl2, q1, q2, q3, hip, Ne.symm hip, ht2, hallt, q4, s3, length_encs]
    all_goals refine fin _ _ (by simp [hww]) (by simp [Ne.symm hip]) (by rw [upd_ne _ _ hip, upd_same]) (fun x hx hx' => by simp [hx, hx'])

theorem putX {H : Mem} {n p i : Nat} {cc : Option Nat} {h' : Hp} (s : St H n p i cc h') (k t c : Int) (l : List Int) (fl : Bool) :
    RunQ Try.prog T.T 37 [.own p 0, hd k t c, .ssl (encs eU l) l.length fl] H n (fun r H' n' =>
      if Can k t c ∧ l.length = body k c ∧ size k t c ≤ h'.room then r = .tup [U (2 * h'.next : Nat), Er 0] ∧ Step H n p i cc H' n' ⟨putL h'.ws h'.next (hv k t c :: ((2 * h'.next : Nat) : Int) :: l), h'.half, h'.up, h'.next + size k t c, h'.on, h'.scan⟩
      else r = .tup [U 0, Er (if Can k t c ∧ l.length = body k c then 21 else 19)] ∧ Calm H n H' n') := by
  have hlp := s.lp
  refine RunQ.ev 999 Try.func37 rfl rfl rfl rfl rfl fun C hr hn => ?_
  simp
  refine Stk.callF 999 (headF k t c) rfl rfl rfl (by simp) rfl rfl ?_
  obtain ⟨H1, hH1⟩ : ∃ H1 : Mem, H1 = upd H n (some (.cells [I k, I t, I c] 34)) := ⟨_, rfl⟩
  have hc1 : Calm H n H1 (n + 1) := ⟨by omega, fun j hj => by rw [hH1, upd_ne _ _ (by omega)]⟩
  have s1 : St H1 (n + 1) p i cc h' := s.far hc1.1 hc1.2
  have h1n : H1 n = some (.cells [I k, I t, I c] 34) := by rw [hH1, upd_same]
  by_cases h : Can k t c
  · have hsz := size_can h
    have hbl := body_le h
    simp [h]
    rw [← hH1]
    refine Stk.callF 999 (bodyF k t c h) rfl rfl rfl (by simp) rfl rfl ?_
    by_cases hlb : l.length = body k c
    · have hlb' : (l.length : Int) = (body k c : Int) := by omega
      have hlb2 : ((l.length : Int) != (body k c : Int)) = false := by simp [hlb]
      have hlb3 : ((body k c : Int) != (body k c : Int)) = false := by simp
      simp [hlb2, h1n, partOf]
      refine Stk.callF 999 (sizeF k t c) rfl rfl rfl (by simp) rfl rfl ?_
      simp
      refine Stk.callS 999 (room s1) rfl rfl rfl (by simp) ?_
      rintro v H2 n2 ⟨rfl, g1, g2⟩
      have hc2 : Calm H n H2 n2 := ⟨by omega, fun j hj => by rw [g2 j (by omega), hc1.2 j hj]⟩
      by_cases hrm : size k t c ≤ h'.room
      · have hrm' : ¬ h'.room < size k t c := by omega
        simp [hrm']
        refine Stk.callS 999 (layX (s.far hc2.1 hc2.2) (hv k t c) l fl (by rw [hlb]; omega)) rfl rfl rfl (by simp [h]) ?_
        rintro v H3 n3 ⟨rfl, rfl, st⟩
        simp
        refine hr _ _ _ (.tup [U (2 * h'.next : Nat), Er 0]) (by simp) ?_
        rw [if_pos ⟨h, hlb, hrm⟩]
        refine ⟨rfl, ?_, by have := hc2.1; omega, fun j hj hjp hji => by rw [st.keep j (by have := hc2.1; omega) hjp hji, hc2.2 j hj]⟩
        rw [hsz, ← hlb]; exact st.st
      · have hrm' : h'.room < size k t c := by omega
        simp [hrm']
        refine hr _ _ _ (.tup [U 0, Er 21]) (by simp) ?_
        rw [if_neg (fun h => hrm h.2.2), if_pos ⟨h, hlb⟩]
        exact ⟨rfl, hc2⟩
    · have hlb2 : ((l.length : Int) != (body k c : Int)) = true := by simp; omega
      simp [hlb2]
      refine hr _ _ _ (.tup [U 0, Er 19]) (by simp) ?_
      rw [if_neg (fun h => hlb h.2.1), if_neg (fun h => hlb h.2)]
      exact ⟨rfl, hc1⟩
  · simp [h]
    exact hr _ _ _ (.tup [U 0, Er 19]) (by simp) (by simp [h]; rw [← hH1]; exact hc1)
end Go.Proofs.Ytfflojbgikfbmaa.Hea

/-
  Records stand one behind the other; what was made stays.
-/
namespace Go.Proofs.Ytfflojbgikfbmaa.Hea
open Go.Proofs.YtfflojbgikfbmaaW.Ah
open Go.Proofs.Ytfflojbgikfbmaa.Sta (U Er eU wrap_nsub wrap_pred load_u)
set_option linter.unusedVariables false
set_option linter.unusedSimpArgs false

/-- Records, one behind the other, from a place to a place. -/
inductive Chain (ws : List Int) : Nat → Nat → Prop
  | nil (a : Nat) : Chain ws a a
  | cons {a b : Nat} (x : Int × Int × Int) (hc : Can x.1 x.2.1 x.2.2) (h1 : ws[a]? = some (hv x.1 x.2.1 x.2.2)) (h2 : ws[a + 1]? = some ((2 * a : Nat) : Int)) (h : Chain ws (a + size x.1 x.2.1 x.2.2) b) : Chain ws a b
theorem Chain.le {ws : List Int} {a b : Nat} (h : Chain ws a b) : a ≤ b := by
  induction h with
  | nil => exact Nat.le_refl _
  | cons x hc h1 h2 h ih => omega
theorem Chain.lay {ws : List Int} {a b : Nat} (h : Chain ws a b) (x : Int × Int × Int) (hc : Can x.1 x.2.1 x.2.2) (l : List Int) (hl : l.length = size x.1 x.2.1 x.2.2 - 2) (hfit : b + size x.1 x.2.1 x.2.2 ≤ ws.length) :
    Chain (putL ws b (hv x.1 x.2.1 x.2.2 :: ((2 * b : Nat) : Int) :: l)) a (b + size x.1 x.2.1 x.2.2) := by
  have hsz := size_can hc
  induction h with
  | nil a =>
    refine .cons x hc ?_ ?_ (.nil _)
    · have := putL_in (ws := ws) (l := hv x.1 x.2.1 x.2.2 :: ((2 * a : Nat) : Int) :: l) (a := a) (k := 0) (by omega) (by simp)
      simpa using this
    · have := putL_in (ws := ws) (l := hv x.1 x.2.1 x.2.2 :: ((2 * a : Nat) : Int) :: l) (a := a) (k := 1) (by omega) (by simp)
      simpa using this
  | cons y hy h1 h2 h ih =>
    have := h.le
    have hsy := size_can hy
    exact .cons y hy (by rw [putL_lt (by omega) (by omega)]; exact h1) (by rw [putL_lt (by omega) (by omega)]; exact h2) (ih hfit)

/-- A heap in which records were made. -/
structure Good (h : Hp) : Prop where
  half : h.half = 200
  up : h.up = false
  on : h.on = false
  scan : h.scan = 0
  w0 : h.ws[0]? = some 0
  ch : Chain h.ws 1 h.next
/-- Behind one more. -/
def laid (h : Hp) (x : Int × Int × Int) (l : List Int) : Hp := ⟨putL h.ws h.next (hv x.1 x.2.1 x.2.2 :: ((2 * h.next : Nat) : Int) :: l), h.half, h.up, h.next + size x.1 x.2.1 x.2.2, h.on, h.scan⟩
theorem Good.to {h : Hp} (g : Good h) (ok : h.Ok) : 1 ≤ h.next ∧ h.next ≤ 201 ∧ h.ws.length = 401 ∧ h.room = 201 - h.next := by
  have h1 := ok.bg
  have h2 := ok.to
  have h3 := ok.len
  have hb : h.begin = 1 := by unfold Hp.begin; rw [g.up]; rfl
  have hr : h.room = h.begin + h.half - h.next := rfl
  have := g.half
  omega
theorem Good.laid {h : Hp} (g : Good h) (ok : h.Ok) (x : Int × Int × Int) (hc : Can x.1 x.2.1 x.2.2) (l : List Int) (hl : l.length = body x.1 x.2.2) (hr : size x.1 x.2.1 x.2.2 ≤ h.room) : Good (laid h x l) := by
  obtain ⟨h1, h2, h3, h4⟩ := g.to ok
  have hsz := size_can hc
  refine ⟨g.half, g.up, g.on, g.scan, ?_, g.ch.lay x hc l (by omega) (by omega)⟩
  show (putL h.ws h.next _)[0]? = _
  rw [putL_lt (by omega) (by omega)]
  exact g.w0

/-- A word tells a record that stands there with these words. -/
def Kept (h : Hp) (w : Int) (x : Int × Int × Int) (l : List Int) : Prop := ∃ a : Nat, w = ((2 * a : Nat) : Int) ∧ 1 ≤ a ∧ Can x.1 x.2.1 x.2.2 ∧ l.length = body x.1 x.2.2 ∧ a + size x.1 x.2.1 x.2.2 ≤ h.next ∧ h.ws[a]? = some (hv x.1 x.2.1 x.2.2) ∧ h.ws[a + 1]? = some ((2 * a : Nat) : Int) ∧ (h.ws.drop (a + 2)).take l.length = l
theorem Kept.laid {h : Hp} {w : Int} {x : Int × Int × Int} {l : List Int} (k : Kept h w x l) (g : Good h) (ok : h.Ok) (y : Int × Int × Int) (hc : Can y.1 y.2.1 y.2.2) (l2 : List Int) (hl : l2.length = body y.1 y.2.2) (hr : size y.1 y.2.1 y.2.2 ≤ h.room) : Kept (laid h y l2) w x l := by
  obtain ⟨a, e1, e2, e3, e4, e5, e6, e7, e8⟩ := k
  obtain ⟨h1, h2, h3, h4⟩ := g.to ok
  have hsy := size_can hc
  have hsx := size_can e3
  refine ⟨a, e1, e2, e3, e4, ?_, ?_, ?_, ?_⟩
  · show a + _ ≤ h.next + _; omega
  · show (putL h.ws h.next _)[a]? = _
    rw [putL_lt (by omega) (by omega)]; exact e6
  · show (putL h.ws h.next _)[a + 1]? = _
    rw [putL_lt (by omega) (by omega)]; exact e7
  · show ((putL h.ws h.next _).drop (a + 2)).take l.length = l
    rw [putL_part (by simp; omega) (.inl (by omega))]; exact e8
theorem Kept.new {h : Hp} (g : Good h) (ok : h.Ok) (x : Int × Int × Int) (hc : Can x.1 x.2.1 x.2.2) (l : List Int) (hl : l.length = body x.1 x.2.2) (hr : size x.1 x.2.1 x.2.2 ≤ h.room) : Kept (Hea.laid h x l) ((2 * h.next : Nat) : Int) x l := by
  obtain ⟨h1, h2, h3, h4⟩ := g.to ok
  have hsx := size_can hc
  refine ⟨h.next, rfl, h1, hc, hl, Nat.le_refl _, ?_, ?_, ?_⟩
  · have := putL_in (ws := h.ws) (l := hv x.1 x.2.1 x.2.2 :: ((2 * h.next : Nat) : Int) :: l) (a := h.next) (k := 0) (by omega) (by simp)
    show (putL h.ws h.next _)[h.next]? = _
    simpa using this
  · have := putL_in (ws := h.ws) (l := hv x.1 x.2.1 x.2.2 :: ((2 * h.next : Nat) : Int) :: l) (a := h.next) (k := 1) (by omega) (by simp)
    show (putL h.ws h.next _)[h.next + 1]? = _
    simpa using this
  · show ((putL h.ws h.next _).drop (h.next + 2)).take l.length = l
    refine List.ext_getElem? fun k => ?_
    rw [List.getElem?_take]
    split
    · rename_i hk
      rw [List.getElem?_drop]
      have := putL_in (ws := h.ws) (l := hv x.1 x.2.1 x.2.2 :: ((2 * h.next : Nat) : Int) :: l) (a := h.next) (k := k + 2) (by omega) (by simp; omega)
      rw [show h.next + 2 + k = h.next + (k + 2) by omega, this]
      simp
    · rw [List.getElem?_eq_none (by omega)]
theorem Kept.rec {h : Hp} {w : Int} {x : Int × Int × Int} {l : List Int} (k : Kept h w x l) (g : Good h) (ok : h.Ok) : ∃ a, h.recAt w = some (a, x) ∧ Can x.1 x.2.1 x.2.2 ∧ l.length = body x.1 x.2.2 ∧ a + size x.1 x.2.1 x.2.2 ≤ 201 ∧ (h.ws.drop (a + 2)).take l.length = l := by
  obtain ⟨a, e1, e2, e3, e4, e5, e6, e7, e8⟩ := k
  obtain ⟨h1, h2, h3, h4⟩ := g.to ok
  have hsx := size_can e3
  have hh := g.half
  have hs : h.span a = h.half + 1 - a := by unfold Hp.span; rw [if_pos (by omega)]
  have p1 : h.pl w = some a := by rw [e1]; exact pl_two e2 (by omega) (by omega)
  refine ⟨a, recAt_of p1 (by omega) ?_ (by omega) ?_ (by omega), e3, e4, by omega, e8⟩
  · rw [getD_of e7]; exact pl_two e2 (by omega) (by omega)
  · rw [getD_of e6]; exact rd_hv e3
theorem Kept.word {h : Hp} {w : Int} {x : Int × Int × Int} {l : List Int} {a k : Nat} (e : (h.ws.drop (a + 2)).take l.length = l) {v : Int} (hk : l[k]? = some v) : h.ws.getD (a + 2 + k) 0 = v := by
  refine getD_of ?_
  have hlt : k < l.length := (List.getElem?_eq_some_iff.1 hk).1
  rw [← e, List.getElem?_take, if_pos hlt, List.getElem?_drop] at hk
  exact hk
end Go.Proofs.Ytfflojbgikfbmaa.Hea
