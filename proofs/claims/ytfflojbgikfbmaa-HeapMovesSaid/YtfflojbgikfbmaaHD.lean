/-
  The heap: heads as words, and Put.
-/
import Derived.Test.YtfflojbgikfbmaaHC
namespace Go.Proofs.Ytfflojbgikfbmaa.Hea
open Go.Proofs.YtfflojbgikfbmaaW.Ah
open Go.Proofs.Ytfflojbgikfbmaa.Sta (U Er eU wrap_nsub wrap_pred load_u)
set_option maxRecDepth 4000
set_option linter.unusedVariables false
set_option linter.unusedSimpArgs false
attribute [local simp] T.t3 T.t4 T.t5 T.t26 T.t34 T.t39 T.t40 T.t62 T.t63 T.t70 T.t93 T.t144 Op.maxDepth List.range List.range.loop
attribute [-simp] appendAV cellsOf cellOk partOk
attribute [local simp] cellsOf_sc cellOk_sc partOk_sc cellsOf_own cellOk_own partOk_own cellsOf_osl cellOk_osl partOk_osl cellsOf_sh cellOk_sh partOk_sh cellsOf_ssl cellOk_ssl partOk_ssl cellsOf_esl cellOk_esl partOk_esl cellsOf_fn cellOk_fn partOk_fn cellsOf_omap cellOk_omap partOk_omap cellsOf_agg partOk_agg cellsOf_slv cellOk_slv partOk_slv

/-- A head's word. -/
def hv (k t c : Int) : Int := k * 65536 + t * 256 + c

theorem or_add {a b q m : Nat} (ha : a = 2 ^ m * q) (hb : b < 2 ^ m) (h : a + b < 4611686018427387904) :
    IntKind.i64.wrap ((a % 2 ^ IntKind.i64.bits ||| b % 2 ^ IntKind.i64.bits : Nat) : Int) = ((a + b : Nat) : Int) := by
  have e1 : a % 2 ^ IntKind.i64.bits = a := Nat.mod_eq_of_lt (by show a < 18446744073709551616; omega)
  have e2 : b % 2 ^ IntKind.i64.bits = b := Nat.mod_eq_of_lt (by show b < 18446744073709551616; omega)
  rw [e1, e2]
  have e3 : a ||| b = a + b := by rw [ha]; exact (Nat.two_pow_add_eq_or_of_lt hb q).symm
  rw [e3, wrap64_id (by omega) (by omega)]

theorem headF (k t c : Int) : RunF Try.prog T.T 55 [hd k t c] (.tup [U (if Can k t c then hv k t c else 0), B (decide (Can k t c))]) := by
  refine RunF.ev 999 Try.func55 rfl rfl rfl rfl rfl fun C hr hn => ?_
  simp
  refine Stk.callF 999 (can k t c) rfl rfl rfl (by simp) rfl rfl ?_
  by_cases h : Can k t c
  · have hb : ∃ K T' C' : Nat, k = K ∧ t = T' ∧ c = C' ∧ K ≤ 1 ∧ T' ≤ 15 ∧ C' ≤ 64 := by
      refine ⟨k.toNat, t.toNat, c.toNat, ?_⟩
      unfold Can at h; omega
    obtain ⟨K, T', C', rfl, rfl, rfl, hK, hT, hC⟩ := hb
    obtain ⟨a, ha⟩ : ∃ a, a = 2 ^ 16 * K := ⟨_, rfl⟩
    obtain ⟨b, hb⟩ : ∃ b, b = 256 * T' := ⟨_, rfl⟩
    obtain ⟨d, hd⟩ : ∃ d, d = a + b := ⟨_, rfl⟩
    obtain ⟨g, hg⟩ : ∃ g, g = d + C' := ⟨_, rfl⟩
    have e1 : IntKind.i64.wrap ((K : Int) * 65536) = (a : Int) := by rw [wrap64_id (by omega) (by omega)]; omega
    have e2 : IntKind.i64.wrap ((T' : Int) * 256) = (b : Int) := by rw [wrap64_id (by omega) (by omega)]; omega
    have o1 := or_add (a := a) (b := b) (q := K) (m := 16) ha (by omega) (by omega)
    have o2 := or_add (a := d) (b := C') (q := 256 * K + T') (m := 8) (by omega) (by omega) (by omega)
    rw [← hd] at o1
    rw [← hg] at o2
    have e3 : IntKind.u64.wrap (g : Int) = (g : Int) := wrapu64_id (by omega) (by omega)
    have e4 : hv K T' C' = (g : Int) := by unfold hv; omega
    simp [h, e1, e2, o1, o2, e3]
    exact hr _ _ _ (by simp [h, e4])
  · simp [h]
    exact hr _ _ _ (by simp [h])

theorem size_can {k t c : Int} (h : Can k t c) : size k t c = 2 + body k c := by simp [size, h]

theorem body_le {k t c : Int} (h : Can k t c) : body k c ≤ 8 := by
  unfold Can at h; unfold body; split <;> omega

theorem put {H : Mem} {n p i : Nat} {cc : Option Nat} {h' : Hp} (s : St H n p i cc h') (k t c : Int) {j : Nat} {cj : Option Nat} {l : List Int} {zs : List AV} (hj : H j = some (.cells (encs eU l ++ zs) 40)) (hjn : j < n) (hji : j ≠ i) (hjp : j ≠ p) :
    RunQ Try.prog T.T 37 [.own p 0, hd k t c, .osl j 0 l.length cj] H n (fun r H' n' =>
      if Can k t c ∧ l.length = body k c ∧ size k t c ≤ h'.room then r = .tup [U (2 * h'.next : Nat), Er 0] ∧ Step H n p i cc H' n' ⟨putL h'.ws h'.next (hv k t c :: ((2 * h'.next : Nat) : Int) :: l), h'.half, h'.up, h'.next + size k t c, h'.on, h'.scan⟩
      else r = .tup [U 0, Er (if Can k t c ∧ l.length = body k c then 21 else 19)] ∧ Calm H n H' n') := by
  have hlp := s.lp
  refine RunQ.ev 999 Try.func37 rfl rfl rfl rfl rfl fun C hr hn => ?_
  simp
  refine Stk.callF 999 (headF k t c) rfl rfl rfl (by simp) rfl rfl ?_
  obtain ⟨H1, hH1⟩ : ∃ H1 : Mem, H1 = upd H n (some (.cells [I k, I t, I c] 34)) := ⟨_, rfl⟩
  have hc1 : Calm H n H1 (n + 1) := ⟨by omega, fun j hj => by rw [hH1, upd_ne _ _ (by omega)]⟩
  have s1 : St H1 (n + 1) p i cc h' := s.far hc1.1 hc1.2
  have h1n : H1 n = some (.cells [I k, I t, I c] 34) := by rw [hH1, upd_same]
  by_cases h : Can k t c
  · have hsz := size_can h
    have hbl := body_le h
    simp [h]
    rw [← hH1]
    refine Stk.callF 999 (bodyF k t c h) rfl rfl rfl (by simp) rfl rfl ?_
    by_cases hlb : l.length = body k c
    · have hlb' : (l.length : Int) = (body k c : Int) := by omega
      have hlb2 : ((l.length : Int) != (body k c : Int)) = false := by simp [hlb]
      have hlb3 : ((body k c : Int) != (body k c : Int)) = false := by simp
      simp [hlb2, h1n, partOf]
      refine Stk.callF 999 (sizeF k t c) rfl rfl rfl (by simp) rfl rfl ?_
      simp
      refine Stk.callS 999 (room s1) rfl rfl rfl (by simp) ?_
      rintro v H2 n2 ⟨rfl, g1, g2⟩
      have hc2 : Calm H n H2 n2 := ⟨by omega, fun j hj => by rw [g2 j (by omega), hc1.2 j hj]⟩
      by_cases hrm : size k t c ≤ h'.room
      · have hrm' : ¬ h'.room < size k t c := by omega
        simp [hrm']
        refine Stk.callS 999 (lay (s.far hc2.1 hc2.2) (hv k t c) (cj := cj) (by rw [hc2.2 j hjn]; exact hj) (by have := hc2.1; omega) hji hjp (by rw [hlb]; omega)) rfl rfl rfl (by simp [h]) ?_
        rintro v H3 n3 ⟨rfl, rfl, st⟩
        simp
        refine hr _ _ _ (.tup [U (2 * h'.next : Nat), Er 0]) (by simp) ?_
        rw [if_pos ⟨h, hlb, hrm⟩]
        refine ⟨rfl, ?_, by have := hc2.1; omega, fun j hj hjp hji => by rw [st.keep j (by have := hc2.1; omega) hjp hji, hc2.2 j hj]⟩
        rw [hsz, ← hlb]; exact st.st
      · have hrm' : h'.room < size k t c := by omega
        simp [hrm']
        refine hr _ _ _ (.tup [U 0, Er 21]) (by simp) ?_
        rw [if_neg (fun h => hrm h.2.2), if_pos ⟨h, hlb⟩]
        exact ⟨rfl, hc2⟩
    · have hlb2 : ((l.length : Int) != (body k c : Int)) = true := by simp; omega
      simp [hlb2]
      refine hr _ _ _ (.tup [U 0, Er 19]) (by simp) ?_
      rw [if_neg (fun h => hlb h.2.1), if_neg (fun h => hlb h.2)]
      exact ⟨rfl, hc1⟩
  · simp [h]
    exact hr _ _ _ (.tup [U 0, Er 19]) (by simp) (by simp [h]; rw [← hH1]; exact hc1)
end Go.Proofs.Ytfflojbgikfbmaa.Hea
