/-
  The library's walks through bytes: backwards, and in rows of eight.
-/
import Derived.Test.YtfflojbgikfbmaaTab
import Derived.Test.YtfflojbgikfbmaaAhR
namespace Go.Proofs.Ytfflojbgikfbmaa
open Go.Proofs.YtfflojbgikfbmaaW.Ah
set_option linter.unusedVariables false
set_option linter.unusedSimpArgs false
set_option maxRecDepth 8000
attribute [local simp] List.range List.range.loop
attribute [-simp] appendAV fillAV

abbrev by_ : Int → List AV := fun x => [.sc (.int .u8 x)]
instance : Enc by_ 1 := ⟨fun _ => rfl⟩

theorem fr_by (x : Int) : freeL (by_ x) = true := rfl

theorem backward_fn (xs : List Int) (full : Bool) : RunF Try.prog T.T 118 [.ssl (encs by_ xs) xs.length full] (.fn (.func 144) [] [.sh [.ssl (encs by_ xs) xs.length full]]) := by
  refine RunF.z Try.func118 rfl rfl rfl rfl rfl fun C hr => ?_
  refine evS_sound (f := 99) ?_
  simp [T.t35]
  exact (hr _ _ _ (.fn (.func 144) [] [.own 0 0]) [0] (by simp) (.inr (.inr (.fn .nil (.cons (view_blk (ty := 35) (by simp) (by simp) (by simp [freeL, free, freeL_encs fr_by])) .nil))))).1

theorem backward_run (xs : List Int) (full : Bool) (hl : xs.length ≤ 9223372036854775807) {i k0 : Nat} {t0 : Nat → AV} {ps : Array Nat} {asg bod : Code} (hps : ps.size = 2) (hk : ps.toList.all (fun p => decide (p < k0)) = true) (Inv : Nat → Mem → Nat → Prop)
    (hI : ∀ j H n, Inv j H n → H i = some (.loop t0 k0 ps asg bod .ready))
    (hround : ∀ (j : Nat) x, xs[j]? = some x → ∀ H n, Inv (j + 1) H n → Round Try.prog T.T k0 t0 ps asg bod i [I j, .sc (.int .u8 x)] H n (fun b H' n' => b = true ∧ Inv j H' n')) (H : Mem) (n : Nat) (h0 : Inv xs.length H n) :
    RunQ Try.prog T.T 144 [.yld i, .sh [.ssl (encs by_ xs) xs.length full]] H n (fun v H' n' => Inv 0 H' n') := by
  refine RunQ.ev 99 Try.func144 rfl rfl rfl rfl rfl fun C hr hn => ?_
  simp [T.t35]
  refine Stk.loop 99 (fun μ t H n => ∃ j : Nat, j ≤ xs.length ∧ μ = j ∧ t 0 = .yld i ∧ t 1 = .sh [.ssl (encs by_ xs) xs.length full] ∧ t 3 = I (j - 1) ∧ Inv j H n) xs.length ?_ ?_
  · have hw : IntKind.i64.wrap ((xs.length : Int) - 1) = (xs.length : Int) - 1 := wrap64_id (by omega) (by omega)
    exact ⟨xs.length, Nat.le_refl _, rfl, by simp, by simp, by simp [hw], h0⟩
  · rintro J hJ μ t H n ⟨j, hj, hμ, h0, h1, h3, hinv⟩
    cases j with
    | zero =>
      simp [h0, h1, h3, T.t35, T.t5]
      exact hn _ _ _ (.tup []) rfl hinv
    | succ j =>
      have e3 : ((j + 1 : Nat) : Int) - 1 = j := by omega
      rw [e3] at h3
      have hx : xs[j]? = some (xs[j]'(by omega)) := by simp
      have hd : partOf T.T 5 (List.drop j (encs by_ xs)) 0 = some (.sc (.int .u8 (xs[j]'(by omega)))) := by
        have := part_one (T := T.T) (f := fun x => AV.sc (.int .u8 x)) T.t5 rfl xs j (by omega)
        simpa using this
      simp [h0, h1, h3, T.t35, T.t5, hd, show j < xs.length by omega]
      refine Stk.round rfl rfl (by simp [h0]) (hI _ _ _ hinv) hps hk (by simpa [h0, h1, h3] using hround j _ hx H n hinv) ?_
      rintro b H' n' ⟨rfl, hinv'⟩
      refine evS_sound (f := 99) ?_
      have hw : IntKind.i64.wrap ((j : Int) - 1) = (j : Int) - 1 := wrap64_id (by omega) (by omega)
      simp [h0, h1, h3, hw]
      exact ⟨j, by omega, hJ _ _ _ _ ⟨j, by omega, rfl, by simp [h0], by simp [h1], by simp, hinv'⟩⟩

theorem chunk_fn (xs : List Int) (full : Bool) : RunF Try.prog T.T 117 [.ssl (encs by_ xs) xs.length full, I 8] (.fn (.func 143) [] [.sh [.ssl (encs by_ xs) xs.length full], .sh [I 8]]) := by
  refine RunF.z Try.func117 rfl rfl rfl rfl rfl fun C hr => ?_
  refine evS_sound (f := 99) ?_
  simp [T.t35, T.t3]
  exact (hr _ _ _ (.fn (.func 143) [] [.own 0 0, .own 1 0]) [0, 1] (by simp) (.inr (.inr (.fn .nil (.cons (view_blk (ty := 35) (by simp) (by simp) (by simp [freeL, free, freeL_encs fr_by])) (.cons (view_blk (ty := 3) (by simp) (by simp) (by simp [freeL, free])) .nil)))))).1

/-- Eight bytes at most, of a row of such. -/
def ch (xs : List Int) (k : Nat) : List Int := (xs.drop (8 * k)).take 8
theorem ch_length (xs : List Int) (k : Nat) : (ch xs k).length = min 8 (xs.length - 8 * k) := by simp [ch]

theorem chunk_run (xs : List Int) (full : Bool) (hl : xs.length ≤ 9000000000000000000) {i k0 : Nat} {t0 : Nat → AV} {ps : Array Nat} {asg bod : Code} (hps : ps.size = 1) (hk : ps.toList.all (fun p => decide (p < k0)) = true) (Inv : Nat → Mem → Nat → Prop)
    (hI : ∀ j H n, Inv j H n → H i = some (.loop t0 k0 ps asg bod .ready))
    (hround : ∀ (j : Nat), 8 * j < xs.length → ∀ H n, Inv j H n → Round Try.prog T.T k0 t0 ps asg bod i [.ssl (encs by_ (ch xs j)) (ch xs j).length true] H n (fun b H' n' => b = true ∧ Inv (j + 1) H' n')) (H : Mem) (n : Nat) (h0 : Inv 0 H n) :
    RunQ Try.prog T.T 143 [.yld i, .sh [.ssl (encs by_ xs) xs.length full], .sh [I 8]] H n (fun v H' n' => ∃ m, xs.length ≤ 8 * m ∧ (m ≠ 0 → 8 * (m - 1) < xs.length) ∧ Inv m H' n') := by
  refine RunQ.ev 99 Try.func143 rfl rfl rfl rfl rfl fun C hr hn => ?_
  simp [T.t35]
  refine Stk.loop 99 (fun μ t H n => ∃ j : Nat, (j ≠ 0 → 8 * (j - 1) < xs.length) ∧ μ = xs.length + 8 - 8 * j ∧ t 0 = .yld i ∧ t 1 = .sh [.ssl (encs by_ xs) xs.length full] ∧ t 2 = .sh [I 8] ∧ t 4 = I (8 * j : Nat) ∧ Inv j H n) (xs.length + 8) ?_ ?_
  · exact ⟨0, by simp, by omega, by simp, by simp, by simp, by simp, h0⟩
  · rintro J hJ μ t H n ⟨j, hj, hμ, h0, h1, h2, h4, hinv⟩
    by_cases hlt : 8 * j < xs.length
    · simp [h0, h1, h2, h4, T.t35, T.t3]
      refine ⟨fun _ => ?_, fun h => absurd h (by omega)⟩
      refine Stk.regionD 99 [.rd [], .rd [], .rd [], .rd [], .rd [], .rd [], .rd []] none (by kernel_rfl) (by rfl) rfl (by simp [below]) rfl ?_
      have hle : 8 * (j : Int) ≤ xs.length := by omega
      have htn : (8 * (j : Int)).toNat = 8 * j := by omega
      have hz8 : (0 : Int) ≤ 8 * (j : Int) := by omega
      have hmin : (if ((xs.length - 8 * j : Nat) : Int) < 8 then ((xs.length - 8 * j : Nat) : Int) else 8) = ((ch xs j).length : Int) := by rw [ch_length]; split <;> omega
      have hcl := ch_length xs j
      have hadd : IntKind.i64.wrap (8 * (j : Int) + ((ch xs j).length : Int)) = ((8 * j + (ch xs j).length : Nat) : Int) := by rw [wrap64_id (by omega) (by omega)]; omega
      have hb1 : (0 : Int) ≤ ((8 * j + (ch xs j).length : Nat) : Int) ∧ ((8 * j + (ch xs j).length : Nat) : Int) ≤ xs.length := by omega
      have htk : (List.take (ch xs j).length (List.drop (8 * j) (encs by_ xs))) = encs by_ (ch xs j) := by
        have e1 : ∀ l : List Int, encs by_ l = l.map fun x => AV.sc (.int .u8 x) := by
          intro l
          induction l with
          | nil => rfl
          | cons x l ih => rw [encs_cons, ih]; rfl
        rw [e1, e1, ch_length]
        simp only [ch, List.map_take, List.map_drop]
        rw [List.take_eq_take_min]
        simp
      have hq1 : (0 : Int) ≤ 8 * (j : Int) + ((ch xs j).length : Int) := by omega
      have hq2 : 8 * (j : Int) + ((ch xs j).length : Int) ≤ xs.length := by omega
      have hq3 : (8 * (j : Int) + ((ch xs j).length : Int)).toNat = 8 * j + (ch xs j).length := by omega
      have hq4 : 8 * (j : Int) ≤ 8 * (j : Int) + ((ch xs j).length : Int) := by omega
      simp [h0, h1, h2, h4, T.t35, T.t3, T.t5, bounds, optBound, boundOf, hle, htn, hmin, hz8, hadd, hq1, hq2, hq3, hq4, htk]
      refine Stk.round rfl rfl (by simp [h0]) (hI _ _ _ hinv) hps hk (by simpa using hround j hlt H n hinv) ?_
      rintro b H' n' ⟨rfl, hinv'⟩
      refine evS_sound (f := 99) ?_
      have hw : IntKind.i64.wrap (8 * (j : Int) + 8) = ((8 * (j + 1) : Nat) : Int) := by rw [wrap64_id (by omega) (by omega)]; omega
      simp [h0, h1, h2, h4, T.t3, hw]
      exact ⟨xs.length + 8 - 8 * (j + 1), by omega, hJ _ _ _ _ ⟨j + 1, fun _ => by simpa using hlt, rfl, by simp [h0], by simp [h1], by simp [h2], by simp, hinv'⟩⟩
    · simp [h0, h1, h2, h4, T.t35, T.t3]
      exact ⟨fun h => absurd h (by omega), fun _ => hn _ _ _ (.tup []) rfl ⟨j, by omega, hj, hinv⟩⟩

end Go.Proofs.Ytfflojbgikfbmaa
