/-
  The statement HeapRooms: its loop.
-/
import Derived.Test.YtfflojbgikfbmaaHD
namespace Go.Proofs.Ytfflojbgikfbmaa.Hea
open Go.Proofs.YtfflojbgikfbmaaW.Ah
open Go.Proofs.Ytfflojbgikfbmaa.Sta (U Er eU wrap_nsub wrap_pred load_u)
set_option maxRecDepth 4000
set_option linter.unusedVariables false
set_option linter.unusedSimpArgs false
attribute [local simp] T.t3 T.t4 T.t5 T.t26 T.t34 T.t39 T.t40 T.t62 T.t63 T.t70 T.t93 T.t144 Op.maxDepth List.range List.range.loop
attribute [-simp] appendAV cellsOf cellOk partOk
attribute [local simp] cellsOf_sc cellOk_sc partOk_sc cellsOf_own cellOk_own partOk_own cellsOf_osl cellOk_osl partOk_osl cellsOf_sh cellOk_sh partOk_sh cellsOf_ssl cellOk_ssl partOk_ssl cellsOf_esl cellOk_esl partOk_esl cellsOf_fn cellOk_fn partOk_fn cellsOf_omap cellOk_omap partOk_omap cellsOf_agg partOk_agg cellsOf_slv cellOk_slv partOk_slv

/-- A head: its kind, tag, count. -/
abbrev eH (x : Int × Int × Int) : List AV := [I x.1, I x.2.1, I x.2.2]
instance : Enc eH 3 := ⟨fun _ => rfl⟩

noncomputable def body7 : Code := Try.f7.body.getD .skip

theorem rL (xs : List (Int × Int × Int)) (m : Nat) (hm : 16 ≤ m ∧ m ≤ 400) (hx : xs.length ≤ 200) (C : Cont) (hC : ∀ t H n, resOf T.T Try.f7.results.toList ⟨t, H, n⟩ = some (B true) → C .ret t H n) (K : (Nat → AV) → Mem → Nat → Prop) (hK : ∀ t H n p i c h, t 0 = I m → t 5 = .own p 0 → St H n p i c h → h.half = m → h.up = false → Stk Try.prog T.T 130 (codes ((seqs body7).drop 11)) t H n C)
    (p i : Nat) (c : Option Nat) (h : Hp) (t : Nat → AV) (H : Mem) (n : Nat) (t0 : t 0 = I m) (t1 : t 1 = .ssl (encs eH xs) xs.length false) (t5 : t 5 = .own p 0) (t7 : t 7 = I m) (st : St H n p i c h) (hh : h.half = m) (hu : h.up = false) (hr0 : h.room = m) :
    Stk Try.prog T.T 130 (codes ((seqs body7).drop 9)) t H n C := by
  refine Stk.cut (l' := (seqs body7).drop 11) [_, _] rfl fun J hJ => ?_
  refine evS_sound (f := 999) ?_
  simp [codes, t1]
  refine Stk.loop 999 (fun μ t H2 n2 => ∃ (q : Nat) (h : Hp), q ≤ xs.length ∧ μ = xs.length - q ∧ t 0 = I m ∧ t 5 = .own p 0 ∧ t 7 = I h.room ∧ t 48 = .ssl (encs eH xs) xs.length false ∧ t 49 = I xs.length ∧ t 50 = I q ∧ St H2 n2 p i c h ∧ h.half = m ∧ h.up = false) xs.length ?_ ?_
  · exact ⟨0, h, Nat.zero_le _, rfl, by simp [t0], by simp [t5], by simp [t7, hr0], by simp [t1], by simp, by simp, st, hh, hu⟩
  clear st t0 t1 t5 t7 hh hu hr0
  rintro J2 hJ2 μ t H2 n2 ⟨q, h, hq, rfl, t0, t5, t7, t48, t49, t50, st, hh, hu⟩
  simp [t48, t49, t50]
  refine ⟨fun hlt => ?_, fun hge => ?_⟩
  · have hld : partOf T.T 34 (List.drop (q * 3) (encs eH xs)) 0 = some (.agg (eH xs[q])) := part_agg (e := eH) (z := 3) T.t34 rfl rfl xs q hlt
    obtain ⟨⟨k, g, z⟩, hx⟩ : ∃ x, x = xs[q] := ⟨_, rfl⟩
    rw [← hx] at hld
    simp [t48, t49, t50, hlt, hld]
    refine Stk.callF 999 (sizeR k g z) rfl rfl rfl (by simp) rfl rfl ?_
    obtain ⟨sz, hsz⟩ : ∃ sz, sz = size k g z := ⟨_, rfl⟩
    rw [← hsz]
    simp
    refine Stk.regionD 999 [.rd [], .rd [n2], .rd [], .rd [], .rd [], .mem [] (n2 + 1), .mem [p, i] (n2 + 1), .rd [], .rd [], .rd [], .rd [], .rd []] none (by kernel_rfl) (by rfl) rfl (by simp [below, *]) rfl ?_
    have wq := wrap_succ q (by omega)
    have hlt' : q + 1 ≤ xs.length := hlt
    obtain ⟨lb, hlb⟩ : ∃ lb, lb = sz - 2 := ⟨_, rfl⟩
    have hsz8 : sz ≤ 10 := by
      rw [hsz]; unfold size; split
      · rename_i hc; have := body_le hc; omega
      · omega
    have hmax : IntKind.i64.wrap ((if (sz : Int) < 2 then 2 else (sz : Int)) - 2) = (lb : Int) := by
      split
      · rw [wrap64_id (by omega) (by omega)]; omega
      · rw [wrap64_id (by omega) (by omega)]; omega
    have hr1 : (lb : Int) * 8 ≤ (roomMax : Nat) := by unfold roomMax; omega
    have hr2 : lb ≤ roomMax := by unfold roomMax; omega
    obtain ⟨M0, hM0⟩ : ∃ M0 : Mem, M0 = upd (upd H2 n2 (some (.cells [.sc (.int .i64 0), .sc (.int .i64 0), .sc (.int .i64 0)] 34))) n2 (some (.cells (eH (k, g, z)) 34)) := ⟨_, rfl⟩
    obtain ⟨M, hM⟩ : ∃ M : Mem, M = upd M0 (n2 + 1) (some (.cells (List.replicate lb (.sc (.int .u64 0))) 40)) := ⟨_, rfl⟩
    have hMj : ∀ j, j < n2 → M j = H2 j := fun j hj => by rw [hM, upd_ne _ _ (by omega), hM0, upd_ne _ _ (by omega), upd_ne _ _ (by omega)]
    have stM := st.far (n' := n2 + 2) (by omega) hMj
    have hlp := st.lp
    have hli := st.li
    have hput := put stM k g z (j := n2 + 1) (cj := some lb) (l := List.replicate lb 0) (zs := []) (by rw [hM, upd_same, encs_rep, List.append_nil]) (by omega) (by omega) (by omega)
    simp only [List.length_replicate, ← hsz] at hput
    rw [← hM0]
    have hM0n : M0 n2 = some (.cells (eH (k, g, z)) 34) := by rw [hM0, upd_same]
    simp [hmax, hr1, hr2, hM0n, partOf, t5]
    rw [← hM]
    refine ⟨fun j hj e => absurd e (by omega), ?_⟩
    have hcond : Can k g z ∧ lb = body k z ↔ Can k g z := ⟨fun h => h.1, fun h => ⟨h, by rw [hlb, hsz, size_can h]; omega⟩⟩
    have hcond2 : Can k g z ∧ lb = body k z ∧ sz ≤ h.room ↔ Can k g z ∧ sz ≤ h.room := ⟨fun h => ⟨h.1, h.2.2⟩, fun h => ⟨h.1, (hcond.2 h.1).2, h.2⟩⟩
    simp only [hcond, hcond2] at hput
    refine Stk.callSD 6 rfl ?_ hput rfl rfl rfl rfl (by simp [t5]) ?_
    · intro v H' n' hz j hj hj'
      simp at hj'
      split at hz
      · exact hz.2.keep j (by omega) hj'.1 hj'.2
      · exact hz.2.2 j (by omega)
    intro v H3 n3 hz
    by_cases hcan : Can k g z
    · have hsz2 : 2 ≤ sz := by rw [hsz, size_can hcan]; omega
      by_cases hfit : sz ≤ h.room
      · rw [if_pos ⟨hcan, hfit⟩] at hz
        obtain ⟨rfl, st3⟩ := hz
        obtain ⟨h3, hh3⟩ : ∃ h3 : Hp, h3 = ⟨putL h.ws h.next (hv k g z :: ((2 * h.next : Nat) : Int) :: List.replicate lb 0), h.half, h.up, h.next + sz, h.on, h.scan⟩ := ⟨_, rfl⟩
        rw [← hh3] at st3
        have hb3 : h3.begin = h.begin := by rw [hh3]; rfl
        have hn3 : h3.next = h.next + sz := by rw [hh3]
        have hro : h.room = h.begin + h.half - h.next := rfl
        have hro3 : h3.room = h3.begin + h.half - h3.next := by rw [hh3]; rfl
        have hto := st.ok.to
        have hbg := st.ok.bg
        have hbe : h.begin = 1 := by unfold Hp.begin; rw [hu]; rfl
        obtain ⟨R, hR⟩ : ∃ R, R = h.room - sz := ⟨_, rfl⟩
        have hR3 : h3.room = R := by omega
        have hsz0 : ((sz : Int) == 0) = false := by simp; omega
        have hgt : ¬ h.room < sz := by omega
        have hgti : ¬ (h.room : Int) < sz := by omega
        have w0 : IntKind.i64.wrap ((h.room : Int) - sz) = (R : Int) := by rw [wrap64_id (by omega) (by omega)]; omega
        have w1 : IntKind.i64.wrap ((h3.next : Int) - h3.begin) = (m : Int) - R := by rw [wrap64_id (by omega) (by omega)]; omega
        have w2 : IntKind.i64.wrap ((m : Int) - R) = (m : Int) - R := by rw [wrap64_id (by omega) (by omega)]
        have w3 : IntKind.i64.wrap ((h3.next : Int) - sz) = (h.next : Int) := by rw [wrap64_id (by omega) (by omega)]; omega
        have w4 : IntKind.u32.wrap (h.next : Int) = h.next := ptrH h.next (by omega)
        have hz0 : ¬ sz = 0 := by omega
        simp [t7]
        (refine evS_sound (f := 12) ?_; simp [t0, t5, t7, t50, wq, hz0, hsz0, hgt, hgti, w0, w1, w2, w3, w4, hR3])
        (refine evS_sound (f := 12) ?_; simp [t0, t5, t7, t50, wq, hz0, hsz0, hgt, hgti, w0, w1, w2, w3, w4, hR3])
        (refine evS_sound (f := 12) ?_; simp [t0, t5, t7, t50, wq, hz0, hsz0, hgt, hgti, w0, w1, w2, w3, w4, hR3])
        have hroom := room st3.st
        simp only [hR3] at hroom
        refine Stk.callS 6 hroom rfl rfl rfl (by simp [t5]) ?_
        rintro v H4 n4 ⟨rfl, hc4⟩
        have st4 := st3.st.far hc4.1 hc4.2
        simp [t0, t5, t7, t50, wq, hz0, hsz0, hgt, hgti, w0, w1, w2, w3, w4, hR3]
        (refine evS_sound (f := 6) ?_; simp [t0, t5, t7, t50, wq, hz0, hsz0, hgt, hgti, w0, w1, w2, w3, w4, hR3])
        refine Stk.callS 6 (next st4) rfl rfl rfl (by simp [t5]) ?_
        rintro v H5 n5 ⟨rfl, rfl, rfl⟩
        simp [t0, t5, t7, t50, wq, hz0, hsz0, hgt, hgti, w0, w1, w2, w3, w4, hR3]
        refine Stk.callS 6 (begin st4) rfl rfl rfl (by simp [t5]) ?_
        rintro v H6 n6 ⟨rfl, hc6⟩
        have st6 := st4.far hc6.1 hc6.2
        simp [t0, t5, t7, t50, wq, hz0, hsz0, hgt, hgti, w0, w1, w2, w3, w4, hR3]
        (refine evS_sound (f := 6) ?_; simp [t0, t5, t7, t50, wq, hz0, hsz0, hgt, hgti, w0, w1, w2, w3, w4, hR3])
        (refine evS_sound (f := 6) ?_; simp [t0, t5, t7, t50, wq, hz0, hsz0, hgt, hgti, w0, w1, w2, w3, w4, hR3])
        (refine evS_sound (f := 6) ?_; simp [t0, t5, t7, t50, wq, hz0, hsz0, hgt, hgti, w0, w1, w2, w3, w4, hR3])
        refine Stk.callS 6 (next st6) rfl rfl rfl (by simp [t5]) ?_
        rintro v H7 n7 ⟨rfl, rfl, rfl⟩
        simp [t0, t5, t7, t50, wq, hz0, hsz0, hgt, hgti, w0, w1, w2, w3, w4, hR3]
        refine Stk.callF 6 (ptr h.next (by omega)) rfl rfl rfl (by simp [t0, t5, t7, t50, wq, hz0, hsz0, hgt, hgti, w0, w1, w2, w3, w4, hR3]) rfl rfl ?_
        simp [t0, t5, t7, t50, wq, hz0, hsz0, hgt, hgti, w0, w1, w2, w3, w4, hR3]
        refine evS_sound (f := 99) ?_
        simp [t0, t5, t7, t50, wq, hz0, hsz0, hgt, hgti, w0, w1, w2, w3, w4, hR3]
        exact ⟨xs.length - (q + 1), by omega, hJ2 _ _ _ _ ⟨q + 1, h3, hlt', rfl, by simp [t0], by simp [t5], by simp [hR3], by simp [t48], by simp [t49], by simp, st6, by rw [hh3]; exact hh, by rw [hh3]; exact hu⟩⟩
      · rw [if_neg (fun h => hfit h.2), if_pos hcan] at hz
        obtain ⟨rfl, hc3⟩ := hz
        have st3 := stM.far hc3.1 hc3.2
        have hro : h.room = h.begin + h.half - h.next := rfl
        have hto := st.ok.to
        have hbg := st.ok.bg
        have hbe : h.begin = 1 := by unfold Hp.begin; rw [hu]; rfl
        have hsz0 : ((sz : Int) == 0) = false := by simp; omega
        have hgt : h.room < sz := by omega
        have hgti : (h.room : Int) < sz := by omega
        have w1 : IntKind.i64.wrap ((h.next : Int) - h.begin) = (m : Int) - h.room := by rw [wrap64_id (by omega) (by omega)]; omega
        have w2 : IntKind.i64.wrap ((m : Int) - h.room) = (m : Int) - h.room := by rw [wrap64_id (by omega) (by omega)]
        have hz0 : ¬ sz = 0 := by omega
        simp [t7]
        (refine evS_sound (f := 12) ?_; simp [t0, t5, t7, t50, wq, hsz0, hgt, hgti, w1, w2, hz0])
        (refine evS_sound (f := 12) ?_; simp [t0, t5, t7, t50, wq, hsz0, hgt, hgti, w1, w2, hz0])
        (refine evS_sound (f := 12) ?_; simp [t0, t5, t7, t50, wq, hsz0, hgt, hgti, w1, w2, hz0])
        refine Stk.callS 6 (room st3) rfl rfl rfl (by simp [t5]) ?_
        rintro v H4 n4 ⟨rfl, hc4⟩
        have st4 := st3.far hc4.1 hc4.2
        simp [t0, t5, t7, t50, wq, hsz0, hgt, hgti, w1, w2, hz0]
        (refine evS_sound (f := 6) ?_; simp [t0, t5, t7, t50, wq, hsz0, hgt, hgti, w1, w2, hz0])
        refine Stk.callS 6 (next st4) rfl rfl rfl (by simp [t5]) ?_
        rintro v H5 n5 ⟨rfl, rfl, rfl⟩
        simp [t0, t5, t7, t50, wq, hsz0, hgt, hgti, w1, w2, hz0]
        refine Stk.callS 6 (begin st4) rfl rfl rfl (by simp [t5]) ?_
        rintro v H6 n6 ⟨rfl, hc6⟩
        have st6 := st4.far hc6.1 hc6.2
        simp [t0, t5, t7, t50, wq, hsz0, hgt, hgti, w1, w2, hz0]
        (refine evS_sound (f := 6) ?_; simp [t0, t5, t7, t50, wq, hsz0, hgt, hgti, w1, w2, hz0])
        (refine evS_sound (f := 6) ?_; simp [t0, t5, t7, t50, wq, hsz0, hgt, hgti, w1, w2, hz0])
        refine evS_sound (f := 99) ?_
        simp [t0, t5, t7, t50, wq, hsz0, hgt, hgti, w1, w2, hz0]
        exact ⟨xs.length - (q + 1), by omega, hJ2 _ _ _ _ ⟨q + 1, h, hlt', rfl, by simp [t0], by simp [t5], by simp [t7], by simp [t48], by simp [t49], by simp, st6, hh, hu⟩⟩
    · have hsz0' : sz = 0 := by rw [hsz]; unfold size; rw [if_neg hcan]
      rw [if_neg (fun h => hcan h.1), if_neg hcan] at hz
      obtain ⟨rfl, hc3⟩ := hz
      have st3 := stM.far hc3.1 hc3.2
      have hro : h.room = h.begin + h.half - h.next := rfl
      have hto := st.ok.to
      have hbg := st.ok.bg
      have hbe : h.begin = 1 := by unfold Hp.begin; rw [hu]; rfl
      have hsz0 : ((sz : Int) == 0) = true := by simp [hsz0']
      have hgt : True := trivial
      have hgti : True := trivial
      have w1 : IntKind.i64.wrap ((h.next : Int) - h.begin) = (m : Int) - h.room := by rw [wrap64_id (by omega) (by omega)]; omega
      have w2 : IntKind.i64.wrap ((m : Int) - h.room) = (m : Int) - h.room := by rw [wrap64_id (by omega) (by omega)]
      have hz0 : sz = 0 := hsz0'
      simp [t7]
      (refine evS_sound (f := 12) ?_; simp [t0, t5, t7, t50, wq, hsz0, hgt, hgti, w1, w2, hz0])
      (refine evS_sound (f := 12) ?_; simp [t0, t5, t7, t50, wq, hsz0, hgt, hgti, w1, w2, hz0])
      refine Stk.callS 6 (room st3) rfl rfl rfl (by simp [t5]) ?_
      rintro v H4 n4 ⟨rfl, hc4⟩
      have st4 := st3.far hc4.1 hc4.2
      simp [t0, t5, t7, t50, wq, hsz0, hgt, hgti, w1, w2, hz0]
      (refine evS_sound (f := 6) ?_; simp [t0, t5, t7, t50, wq, hsz0, hgt, hgti, w1, w2, hz0])
      refine Stk.callS 6 (next st4) rfl rfl rfl (by simp [t5]) ?_
      rintro v H5 n5 ⟨rfl, rfl, rfl⟩
      simp [t0, t5, t7, t50, wq, hsz0, hgt, hgti, w1, w2, hz0]
      refine Stk.callS 6 (begin st4) rfl rfl rfl (by simp [t5]) ?_
      rintro v H6 n6 ⟨rfl, hc6⟩
      have st6 := st4.far hc6.1 hc6.2
      simp [t0, t5, t7, t50, wq, hsz0, hgt, hgti, w1, w2, hz0]
      (refine evS_sound (f := 6) ?_; simp [t0, t5, t7, t50, wq, hsz0, hgt, hgti, w1, w2, hz0])
      (refine evS_sound (f := 6) ?_; simp [t0, t5, t7, t50, wq, hsz0, hgt, hgti, w1, w2, hz0])
      refine evS_sound (f := 99) ?_
      simp [t0, t5, t7, t50, wq, hsz0, hgt, hgti, w1, w2, hz0]
      exact ⟨xs.length - (q + 1), by omega, hJ2 _ _ _ _ ⟨q + 1, h, hlt', rfl, by simp [t0], by simp [t5], by simp [t7], by simp [t48], by simp [t49], by simp, st6, hh, hu⟩⟩
  · have : q = xs.length := by omega
    exact hJ _ _ _ (hK _ _ _ p i c h t0 t5 st hh hu)
end Go.Proofs.Ytfflojbgikfbmaa.Hea
