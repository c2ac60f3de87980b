/-
  Timers: how one is taken.
-/
import Derived.Test.YtfbkgjmpadknfaaTmB
namespace Go.Proofs.Ytfbkgjmpadknfaa.Tim
open Go.Proofs.YtfbkgjmpadknfaaW.Ah
set_option maxRecDepth 4000
set_option linter.unusedVariables false
set_option linter.unusedSimpArgs false
attribute [local simp] T.t2 T.t3 T.t4 T.t22 T.t23 T.t28 T.t89 T.t90 T.t92 T.t148 Op.maxDepth List.range List.range.loop
attribute [-simp] appendAV cellsOf cellOk partOk
attribute [local simp] cellsOf_sc cellOk_sc partOk_sc cellsOf_own cellOk_own partOk_own cellsOf_osl cellOk_osl partOk_osl cellsOf_sh cellOk_sh partOk_sh cellsOf_ssl cellOk_ssl partOk_ssl cellsOf_esl cellOk_esl partOk_esl cellsOf_fn cellOk_fn partOk_fn cellsOf_omap cellOk_omap partOk_omap cellsOf_agg partOk_agg cellsOf_slv cellOk_slv partOk_slv

theorem idx {H : Mem} {n a : Nat} {x : Ti} {l : List Ti} {ys : List AV} {c : Option Nat} (ha : H a = some (.cells (encs eT (x :: l) ++ ys) 28)) (han : a < n) :
    RunQ Try.prog T.T 94 [.osl a 0 (l.length + 1) c, .agg (eT x)] H n (fun r H' n' => r = I 0 ∧ n ≤ n' ∧ ∀ j, j < n → H' j = H j) := by
  refine RunQ.ev 999 Try.func94 rfl rfl rfl rfl rfl fun C hr hn => ?_
  simp
  refine Stk.loop 999 (fun μ t H2 n2 => n2 = n + 1 ∧ H2 = upd H n (some (.cells (eT x) 28)) ∧ t 0 = .osl a 0 (l.length + 1) c ∧ t 3 = .own n 0 ∧ t 6 = .osl a 0 (l.length + 1) c ∧ t 7 = I (l.length + 1 : Nat) ∧ t 8 = I 0) 0 ?_ ?_
  · exact ⟨rfl, rfl, by simp, by simp, by simp, by simp, by simp⟩
  rintro J hJ μ t H2 n2 ⟨rfl, rfl, t0, t3, t6, t7, t8⟩
  have h1 : (0 : Int) < (l.length : Int) + 1 := by omega
  have hna : ¬ a = n := by omega
  have han1 : a < n + 1 := by omega
  simp [t0, t3, t6, t7, t8, h1]
  refine Stk.regionD 999 [.rd [n], .rd [], .rd [], .rd [], .rd [a], .rd []] none (by kernel_rfl) (by rfl) rfl (by simp [below, *]) rfl ?_
  simp [t0, t3, h1, hna, ha, encs, partOf]
  exact hr _ _ _ (I 0) (by simp) ⟨rfl, by omega, fun j hj => by simp [show j ≠ n by omega]⟩

def pick (l : List Ti) (f k : Nat) : Nat := if k < l.length ∧ ord (l.getD k dT) (l.getD f dT) < 0 then k else f
def firstL (l : List Ti) (i : Nat) : Nat := pick l (pick l i (2 * i + 1)) (2 * i + 2)
def downL : Nat → List Ti → Nat → List Ti
  | 0, l, _ => l
  | f + 1, l, i => if firstL l i = i then l else downL f ((l.set i (l.getD (firstL l i) dT)).set (firstL l i) (l.getD i dT)) (firstL l i)

theorem downL_len : ∀ (f : Nat) (l : List Ti) (i : Nat), (downL f l i).length = l.length
  | 0, l, i => rfl
  | f + 1, l, i => by
    simp only [downL]
    split
    · rfl
    · rw [downL_len f]; simp

theorem pick_lt {l : List Ti} {f k : Nat} (h : f < l.length) : pick l f k < l.length := by unfold pick; split <;> omega
theorem first_lt {l : List Ti} {i : Nat} (h : i < l.length) : firstL l i < l.length := pick_lt (pick_lt h)
theorem first_ge {l : List Ti} {i : Nat} : i ≤ firstL l i := by unfold firstL pick; split <;> split <;> omega

theorem down (H : Mem) (n b : Nat) (l : List Ti) (ys : List AV) (c : Option Nat) (i : Nat) (hb : H b = some (.cells (encs eT l ++ ys) 28)) (hbn : b < n) (hi : i < l.length) (hl : l.length ≤ 65536) :
    RunQ Try.prog T.T 103 [.osl b 0 l.length c, I i] H n (fun r H' n' => r = .tup [] ∧ n' = n ∧ H' b = some (.cells (encs eT (downL l.length l i) ++ ys) 28) ∧ ∀ j, j ≠ b → H' j = H j) := by
  refine RunQ.ev 999 Try.func103 rfl rfl rfl rfl rfl fun C hr hn => ?_
  simp
  refine Stk.loop 999 (fun μ t H2 n2 => n2 = n ∧ ∃ (l2 : List Ti) (i2 f : Nat), μ = l.length - i2 ∧ l.length - i2 ≤ f ∧ i2 < l2.length ∧ l2.length = l.length ∧ downL f l2 i2 = downL l.length l i ∧ t 0 = .osl b 0 l.length c ∧ t 1 = I i2 ∧ H2 b = some (.cells (encs eT l2 ++ ys) 28) ∧ ∀ j, j ≠ b → H2 j = H j) (l.length - i) ?_ ?_
  · exact ⟨rfl, l, i, l.length, rfl, by omega, hi, rfl, rfl, by simp, by simp, hb, fun _ _ => rfl⟩
  rintro J hJ μ t H2 n2 ⟨rfl, l2, i2, f, rfl, hif, hil, hll, hu, t0, t1, hb2, hk⟩
  obtain ⟨k1, hk1⟩ : ∃ k1, k1 = 2 * i2 + 1 := ⟨_, rfl⟩
  obtain ⟨k2, hk2⟩ : ∃ k2, k2 = 2 * i2 + 2 := ⟨_, rfl⟩
  obtain ⟨k3, hk3⟩ : ∃ k3, k3 = 2 * i2 + 3 := ⟨_, rfl⟩
  obtain ⟨k0, hk0⟩ : ∃ k0, k0 = 2 * i2 := ⟨_, rfl⟩
  have w1 : IntKind.i64.wrap (2 * (i2 : Int)) = (k0 : Int) := by rw [wrap64_id (by omega) (by omega)]; omega
  have w2 : IntKind.i64.wrap ((k0 : Int) + 1) = (k1 : Int) := by rw [wrap64_id (by omega) (by omega)]; omega
  have w3 : IntKind.i64.wrap ((k0 : Int) + 2) = (k2 : Int) := by rw [wrap64_id (by omega) (by omega)]; omega
  have w4 : IntKind.i64.wrap ((k1 : Int) + 1) = (k2 : Int) := by rw [wrap64_id (by omega) (by omega)]; omega
  have w5 : IntKind.i64.wrap ((k2 : Int) + 1) = (k3 : Int) := by rw [wrap64_id (by omega) (by omega)]; omega
  obtain ⟨f1, hf1⟩ : ∃ f1, f1 = pick l2 i2 k1 := ⟨_, rfl⟩
  obtain ⟨f2, hf2⟩ : ∃ f2, f2 = pick l2 f1 k2 := ⟨_, rfl⟩
  have hfl : firstL l2 i2 = f2 := by unfold firstL; rw [← hk1, ← hk2, ← hf1, ← hf2]
  have hf1l : f1 < l2.length := hf1 ▸ pick_lt hil
  have hf2l : f2 < l2.length := hf2 ▸ pick_lt hf1l
  have hf2g : i2 ≤ f2 := hfl ▸ first_ge
  simp [t0, t1, w1, w2]
  refine Stk.loop 999 (fun μ t H3 n3 => n3 = n2 ∧ H3 = H2 ∧ t 0 = .osl b 0 l.length c ∧ t 1 = I i2 ∧ ((μ = 2 ∧ t 4 = I i2 ∧ t 5 = I k1) ∨ (μ = 1 ∧ t 4 = I f1 ∧ t 5 = I k2) ∨ (μ = 0 ∧ t 4 = I f2 ∧ t 5 = I k3))) 2 ?_ ?_
  · exact ⟨rfl, rfl, by simp [t0], by simp [t1], .inl ⟨rfl, by simp [t1], by simp⟩⟩
  clear t0 t1
  rintro J2 hJ2 μ t H3 n3 ⟨rfl, rfl, t0, t1, hc⟩
  rcases hc with ⟨rfl, t4, t5⟩ | ⟨rfl, t4, t5⟩ | ⟨rfl, t4, t5⟩
  · have hle' : k1 ≤ k2 := by omega
    by_cases hlt : k1 < l.length
    · simp [t0, t1, t4, t5, w1, w3, hle', hlt]
      have pK := part_own (e := eT) (z := 3) T.t28 rfl rfl l2 ys k1 (by omega)
      have pF := part_own (e := eT) (z := 3) T.t28 rfl rfl l2 ys i2 hil
      have gK : l2.getD k1 dT = l2[k1] := by simp [show k1 < l2.length by omega]
      have gF : l2.getD i2 dT = l2[i2] := by simp [hil]
      obtain ⟨x, hx⟩ : ∃ x, x = l2[k1] := ⟨_, rfl⟩
      obtain ⟨y, hy⟩ : ∃ y, y = l2[i2] := ⟨_, rfl⟩
      rw [← hx] at pK gK
      rw [← hy] at pF gF
      have hfl' : i2 < l.length := by omega
      refine Stk.regionD 999 [.rd [], .rd [], .rd [], .rd [b], .rd [], .rd [], .rd [], .rd [b], .rd [], .rd []] none (by kernel_rfl) (by rfl) rfl (by simp [below, *]) rfl ?_
      simp [t0, t1, t4, t5, hlt, hfl', hb2, pK, pF]
      refine Stk.callFD 999 (order x y) rfl rfl rfl rfl rfl (by simp) rfl rfl ?_
      have hpk : f1 = if ord x y < 0 then k1 else i2 := by
        rw [hf1]; unfold pick; rw [gK, gF]
        by_cases ho : ord x y < 0
        · rw [if_pos ⟨by omega, ho⟩, if_pos ho]
        · rw [if_neg (fun h => ho h.2), if_neg ho]
      simp [t0, t1, t4, t5, w4]
      refine ⟨fun ho => ?_, fun ho => ?_⟩
      · rw [if_pos ho] at hpk
        exact ⟨1, by omega, hJ2 _ _ _ _ ⟨rfl, rfl, by simp [t0], by simp [t1], .inr <| .inl ⟨rfl, by simp [t5, hpk], by simp⟩⟩⟩
      · rw [if_neg (by omega)] at hpk
        exact ⟨1, by omega, hJ2 _ _ _ _ ⟨rfl, rfl, by simp [t0], by simp [t1], .inr <| .inl ⟨rfl, by simp [t4, hpk], by simp⟩⟩⟩
    · simp [t0, t1, t4, t5, w1, w3, hle', hlt]
      have e1 : f1 = i2 := by rw [hf1]; unfold pick; rw [if_neg (fun h => by omega)]
      have e2 : f2 = i2 := by rw [hf2]; unfold pick; rw [if_neg (fun h => by omega), e1]
      have hd : downL l.length l i = l2 := by
        rw [← hu]
        obtain ⟨f', rfl⟩ : ∃ f', f = f' + 1 := ⟨f - 1, by omega⟩
        simp only [downL]; rw [if_pos (by rw [hfl]; exact e2)]
      exact hr _ _ _ (.tup []) (by simp) ⟨rfl, rfl, by rw [hd]; exact hb2, hk⟩
  · by_cases hlt : k2 < l.length
    · simp [t0, t1, t4, t5, w1, w3, hlt]
      have pK := part_own (e := eT) (z := 3) T.t28 rfl rfl l2 ys k2 (by omega)
      have pF := part_own (e := eT) (z := 3) T.t28 rfl rfl l2 ys f1 hf1l
      have gK : l2.getD k2 dT = l2[k2] := by simp [show k2 < l2.length by omega]
      have gF : l2.getD f1 dT = l2[f1] := by simp [hf1l]
      obtain ⟨x, hx⟩ : ∃ x, x = l2[k2] := ⟨_, rfl⟩
      obtain ⟨y, hy⟩ : ∃ y, y = l2[f1] := ⟨_, rfl⟩
      rw [← hx] at pK gK
      rw [← hy] at pF gF
      have hfl' : f1 < l.length := by omega
      refine Stk.regionD 999 [.rd [], .rd [], .rd [], .rd [b], .rd [], .rd [], .rd [], .rd [b], .rd [], .rd []] none (by kernel_rfl) (by rfl) rfl (by simp [below, *]) rfl ?_
      simp [t0, t1, t4, t5, hlt, hfl', hb2, pK, pF]
      refine Stk.callFD 999 (order x y) rfl rfl rfl rfl rfl (by simp) rfl rfl ?_
      have hpk : f2 = if ord x y < 0 then k2 else f1 := by
        rw [hf2]; unfold pick; rw [gK, gF]
        by_cases ho : ord x y < 0
        · rw [if_pos ⟨by omega, ho⟩, if_pos ho]
        · rw [if_neg (fun h => ho h.2), if_neg ho]
      simp [t0, t1, t4, t5, w5]
      refine ⟨fun ho => ?_, fun ho => ?_⟩
      · rw [if_pos ho] at hpk
        exact hJ2 _ _ _ _ ⟨rfl, rfl, by simp [t0], by simp [t1], .inr <| .inr ⟨rfl, by simp [t5, hpk], by simp⟩⟩
      · rw [if_neg (by omega)] at hpk
        exact hJ2 _ _ _ _ ⟨rfl, rfl, by simp [t0], by simp [t1], .inr <| .inr ⟨rfl, by simp [t4, hpk], by simp⟩⟩
    · have e2 : f2 = f1 := by rw [hf2]; unfold pick; rw [if_neg (fun h => by omega)]
      rw [← e2] at t4
      simp [t0, t1, t4, t5, w1, w3, hlt]
      refine ⟨fun he => ?_, fun hne => ?_⟩
      · have he' : f2 = i2 := by omega
        have hd : downL l.length l i = l2 := by
          rw [← hu]
          obtain ⟨f', rfl⟩ : ∃ f', f = f' + 1 := ⟨f - 1, by omega⟩
          simp only [downL]; rw [if_pos (by rw [hfl]; exact he')]
        exact hr _ _ _ (.tup []) (by simp) ⟨rfl, rfl, by rw [hd]; exact hb2, hk⟩
      · have hne' : ¬ f2 = i2 := by omega
        have pK := part_own (e := eT) (z := 3) T.t28 rfl rfl l2 ys i2 hil
        have pF := part_own (e := eT) (z := 3) T.t28 rfl rfl l2 ys f2 hf2l
        have gK : l2.getD i2 dT = l2[i2] := by simp [hil]
        have gF : l2.getD f2 dT = l2[f2] := by simp [hf2l]
        obtain ⟨x, hx⟩ : ∃ x, x = l2[i2] := ⟨_, rfl⟩
        obtain ⟨y, hy⟩ : ∃ y, y = l2[f2] := ⟨_, rfl⟩
        rw [← hx] at pK gK
        rw [← hy] at pF gF
        have hfl' : f2 < l.length := by omega
        have hil' : i2 < l.length := by omega
        have s1 := splice_own (e := eT) (z := 3) l2 ys i2 hil y
        have s2 := splice_own (e := eT) (z := 3) (l2.set i2 y) ys f2 (by simpa using hf2l) x
        have r1 : i2 * 3 + 3 ≤ l2.length * 3 + ys.length := by omega
        have r2 : f2 * 3 + 3 ≤ l2.length * 3 + ys.length := by omega
        simp [eT] at s1 s2
        refine evS_sound (f := 999) ?_
        simp
        refine Stk.regionD 999 [.rd [], .rd [], .rd [], .rd [], .rd [], .rd [], .rd [], .rd [b], .rd [], .rd [], .rd [], .rd [b], .rd [], .mem [b] n3, .rd [], .mem [b] n3] none (by kernel_rfl) (by rfl) rfl (by simp [below, *]) rfl ?_
        simp [t0, t1, t4, hil', hfl', hb2, pK, pF, s1, s2, r1, r2]
        refine ⟨fun j hj hj' e => absurd e hj', fun j hj hj' e => absurd e hj', l.length - f2, by omega, hJ _ _ _ _ ⟨rfl, (l2.set i2 y).set f2 x, f2, f - 1, rfl, by omega, by simpa using hf2l, by simpa using hll, ?_, by simp [t0], by simp [t4], by simp, fun j hj => by simp [hj, hk]⟩⟩
        rw [← hu]
        obtain ⟨f', rfl⟩ : ∃ f', f = f' + 1 := ⟨f - 1, by omega⟩
        simp only [downL]
        rw [if_neg (by rw [hfl]; exact hne'), hfl, gK, gF, Nat.add_sub_cancel]
  · have hgt : ¬ k3 ≤ k2 := by omega
    simp [t0, t1, t4, t5, w1, w3, hgt]
    refine ⟨fun he => ?_, fun hne => ?_⟩
    · have he' : f2 = i2 := by omega
      have hd : downL l.length l i = l2 := by
        rw [← hu]
        obtain ⟨f', rfl⟩ : ∃ f', f = f' + 1 := ⟨f - 1, by omega⟩
        simp only [downL]; rw [if_pos (by rw [hfl]; exact he')]
      exact hr _ _ _ (.tup []) (by simp) ⟨rfl, rfl, by rw [hd]; exact hb2, hk⟩
    · have hne' : ¬ f2 = i2 := by omega
      have pK := part_own (e := eT) (z := 3) T.t28 rfl rfl l2 ys i2 hil
      have pF := part_own (e := eT) (z := 3) T.t28 rfl rfl l2 ys f2 hf2l
      have gK : l2.getD i2 dT = l2[i2] := by simp [hil]
      have gF : l2.getD f2 dT = l2[f2] := by simp [hf2l]
      obtain ⟨x, hx⟩ : ∃ x, x = l2[i2] := ⟨_, rfl⟩
      obtain ⟨y, hy⟩ : ∃ y, y = l2[f2] := ⟨_, rfl⟩
      rw [← hx] at pK gK
      rw [← hy] at pF gF
      have hfl' : f2 < l.length := by omega
      have hil' : i2 < l.length := by omega
      have s1 := splice_own (e := eT) (z := 3) l2 ys i2 hil y
      have s2 := splice_own (e := eT) (z := 3) (l2.set i2 y) ys f2 (by simpa using hf2l) x
      have r1 : i2 * 3 + 3 ≤ l2.length * 3 + ys.length := by omega
      have r2 : f2 * 3 + 3 ≤ l2.length * 3 + ys.length := by omega
      simp [eT] at s1 s2
      refine evS_sound (f := 999) ?_
      simp
      refine Stk.regionD 999 [.rd [], .rd [], .rd [], .rd [], .rd [], .rd [], .rd [], .rd [b], .rd [], .rd [], .rd [], .rd [b], .rd [], .mem [b] n3, .rd [], .mem [b] n3] none (by kernel_rfl) (by rfl) rfl (by simp [below, *]) rfl ?_
      simp [t0, t1, t4, hil', hfl', hb2, pK, pF, s1, s2, r1, r2]
      refine ⟨fun j hj hj' e => absurd e hj', fun j hj hj' e => absurd e hj', l.length - f2, by omega, hJ _ _ _ _ ⟨rfl, (l2.set i2 y).set f2 x, f2, f - 1, rfl, by omega, by simpa using hf2l, by simpa using hll, ?_, by simp [t0], by simp [t4], by simp, fun j hj => by simp [hj, hk]⟩⟩
      rw [← hu]
      obtain ⟨f', rfl⟩ : ∃ f', f = f' + 1 := ⟨f - 1, by omega⟩
      simp only [downL]
      rw [if_neg (by rw [hfl]; exact hne'), hfl, gK, gF, Nat.add_sub_cancel]
end Go.Proofs.Ytfbkgjmpadknfaa.Tim
