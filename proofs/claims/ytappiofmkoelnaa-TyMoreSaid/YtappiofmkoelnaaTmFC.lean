/-
  Which types have values: the names' map, and going backwards.
-/
import Derived.Test.YtappiofmkoelnaaTmFB
namespace Go.Proofs.Ytappiofmkoelnaa.M
open Go.Proofs.YtappiofmkoelnaaW.Ah Go.Proofs.Ytappiofmkoelnaa
set_option maxRecDepth 4000
set_option linter.unusedVariables false
set_option linter.unusedSimpArgs false
attribute [local simp] T.t3 T.t4 T.t9 T.t22 T.t30 T.t32 T.t33 T.t35 T.t37 T.t40 T.t61 T.t62 T.t64 Op.maxDepth List.range List.range.loop
attribute [-simp] appendAV splice

def atFrom (l : List api_Data) (j : Nat) (nm : ByteArray) : Option Nat := ((l.drop j).findIdx? fun d => d.Name.toList == nm.toList).map (· + j)
theorem atFrom_zero (l : List api_Data) : atFrom l 0 = atN l := by funext nm; simp [atFrom, atN]
theorem atFrom_end (l : List api_Data) (nm : ByteArray) : atFrom l l.length nm = none := by simp [atFrom]
theorem atFrom_step {l : List api_Data} {j : Nat} {d : api_Data} (h : l[j]? = some d) (nm : ByteArray) : atFrom l j nm = if d.Name.toList == nm.toList then some j else atFrom l (j + 1) nm := by
  obtain ⟨hlt, rfl⟩ := List.getElem?_eq_some_iff.1 h
  unfold atFrom
  rw [List.drop_eq_getElem_cons hlt, List.findIdx?_cons]
  split
  · simp
  · cases List.findIdx? (fun d => d.Name.toList == nm.toList) (l.drop (j + 1)) with
    | none => rfl
    | some i => simp; omega
theorem keyEq_str (a b : ByteArray) : keyEq (.string a) (.string b) = some (a.toList == b.toList) := by rw [← str_eq]; rfl
theorem find_set (v w : ByteArray) (x : AV) : ∀ (es : List (Value × AV × Nat)) (i p : Nat) (y : AV) (b : Nat), findAV (.string v) es i = some (some (p, y, b)) →
    i ≤ p ∧ findAV (.string w) (es.set (p - i) (.string v, x, b)) i = if v.toList == w.toList then some (some (p, x, b)) else findAV (.string w) es i
  | [], i, p, y, b, h => by simp [findAV] at h
  | (k, y0, b0) :: es, i, p, y, b, h => by
    cases k with
    | string m =>
      simp only [findAV, keyEq_str] at h
      cases hm : (v.toList == m.toList) with
      | true =>
        rw [hm] at h
        simp only [Option.some.injEq, Prod.mk.injEq] at h
        obtain ⟨rfl, rfl, rfl⟩ := h
        refine ⟨Nat.le_refl _, ?_⟩
        rw [Nat.sub_self]
        simp only [List.set_cons_zero, findAV, keyEq_str]
        have e1 : v.toList = m.toList := by simpa using hm
        rw [← e1]
        cases hw : (v.toList == w.toList) with
        | true => have : v.toList = w.toList := by simpa using hw
                  rw [this]; simp
        | false =>
          have : (w.toList == v.toList) = false := by
            rw [Bool.eq_false_iff] at hw ⊢
            intro e; exact hw (by simp at e; simp [e])
          rw [this]; simp
      | false =>
        rw [hm] at h
        simp only at h
        obtain ⟨h1, h2⟩ := find_set v w x es (i + 1) p y b h
        refine ⟨by omega, ?_⟩
        rw [show p - i = (p - (i + 1)) + 1 by omega, List.set_cons_succ]
        simp only [findAV, keyEq_str]
        cases hw : (w.toList == m.toList) with
        | true =>
          simp only
          have : (v.toList == w.toList) = false := by
            rw [Bool.eq_false_iff] at hm ⊢
            intro e; simp at e hw; exact hm (by simp [e, hw])
          rw [this]; simp
        | false => simp only; exact h2
    | _ => simp [findAV, keyEq] at h
theorem find_app (v w : ByteArray) (x : AV) (c : Nat) : ∀ (es : List (Value × AV × Nat)) (i : Nat), findAV (.string v) es i = some none →
    ∃ p, findAV (.string w) (es ++ [(.string v, x, c)]) i = if v.toList == w.toList then some (some (p, x, c)) else findAV (.string w) es i
  | [], i, _ => by
    refine ⟨i, ?_⟩
    simp only [List.nil_append, findAV, keyEq_str]
    cases hw : (v.toList == w.toList) with
    | true => have : v.toList = w.toList := by simpa using hw
              rw [this]; simp
    | false =>
      have : (w.toList == v.toList) = false := by
        rw [Bool.eq_false_iff] at hw ⊢
        intro e; exact hw (by simp at e; simp [e])
      rw [this]; simp
  | (k, y0, b0) :: es, i, h => by
    cases k with
    | string m =>
      simp only [findAV, keyEq_str] at h
      cases hm : (v.toList == m.toList) with
      | true => rw [hm] at h; simp at h
      | false =>
        rw [hm] at h
        simp only at h
        obtain ⟨p, h2⟩ := find_app v w x c es (i + 1) h
        refine ⟨p, ?_⟩
        rw [List.cons_append]
        simp only [findAV, keyEq_str]
        cases hw : (w.toList == m.toList) with
        | true =>
          simp only
          have : (v.toList == w.toList) = false := by
            rw [Bool.eq_false_iff] at hm ⊢
            intro e; simp at e hw; exact hm (by simp [e, hw])
          rw [this]; simp
        | false => simp only; exact h2
    | _ => simp [findAV, keyEq] at h
theorem MapOk.step {es : List (Value × AV × Nat)} {l : List api_Data} {j : Nat} {d : api_Data} (h : l[j]? = some d) (hm : MapOk es (atFrom l (j + 1))) (c : Nat) :
    (∃ p y b, findAV (.string d.Name) es 0 = some (some (p, y, b)) ∧ MapOk (es.set p (.string d.Name, I j, b)) (atFrom l j)) ∨ (findAV (.string d.Name) es 0 = some none ∧ MapOk (es ++ [(.string d.Name, I j, c)]) (atFrom l j)) := by
  have h0 := hm d.Name
  cases ha : atFrom l (j + 1) d.Name with
  | some i =>
    rw [ha] at h0
    obtain ⟨p, b, h0⟩ := h0
    refine .inl ⟨p, _, b, h0, fun nm => ?_⟩
    have h1 := (find_set d.Name nm (I j) es 0 p _ b h0).2
    rw [Nat.sub_zero] at h1
    rw [h1, atFrom_step h]
    have h2 := hm nm
    cases hh : (d.Name.toList == nm.toList) with
    | true => exact ⟨p, b, rfl⟩
    | false => exact h2
  | none =>
    rw [ha] at h0
    refine .inr ⟨h0, fun nm => ?_⟩
    obtain ⟨p, h1⟩ := find_app d.Name nm (I j) c es 0 h0
    rw [h1, atFrom_step h]
    have h2 := hm nm
    cases hh : (d.Name.toList == nm.toList) with
    | true => exact ⟨p, c, rfl⟩
    | false => exact h2

theorem backward_fn (xs : List api_Data) : RunF Try.prog T.T 26 [.ssl (encs c32 xs) xs.length false] (.fn (.func 37) [] [.sh [.ssl (encs c32 xs) xs.length false]]) := by
  refine RunF.z Try.func26 rfl rfl rfl rfl rfl fun C hr => ?_
  refine evS_sound (f := 99) ?_
  simp
  exact (hr _ _ _ (.fn (.func 37) [] [.own 0 0]) [0] (by simp) (.inr (.inr (.fn .nil (.cons (view_blk (ty := 22) (by simp) (by simp) (by simp [freeL, free, freeL_encs fr32])) .nil))))).1

theorem backward_run (xs : List api_Data) (hl : xs.length ≤ 1000) {i k0 : Nat} {t0 : Nat → AV} {ps : Array Nat} {asg bod : Code} (hps : ps.size = 2) (hk : ps.toList.all (fun p => decide (p < k0)) = true) (Inv : Nat → Mem → Nat → Prop)
    (hI : ∀ j H n, Inv j H n → H i = some (.loop t0 k0 ps asg bod .ready))
    (hround : ∀ (j : Nat) x, xs[j]? = some x → ∀ H n, Inv (j + 1) H n → Round Try.prog T.T k0 t0 ps asg bod i [I j, .agg (c32 x)] H n (fun b H' n' => b = true ∧ Inv j H' n')) (H : Mem) (n : Nat) (h0 : Inv xs.length H n) :
    RunQ Try.prog T.T 37 [.yld i, .sh [.ssl (encs c32 xs) xs.length false]] H n (fun v H' n' => Inv 0 H' n') := by
  refine RunQ.ev 9 Try.func37 rfl rfl rfl rfl rfl fun C hr hn => ?_
  have hw : IntKind.i64.wrap ((xs.length : Int) - 1) = (xs.length : Int) - 1 := wrap64_id (by omega) (by omega)
  simp [hw]
  iterate 3 (try (refine evS_sound (f := 6) ?_; simp [hw]))
  refine Stk.loop 4 (fun μ t H n => ∃ j : Nat, j ≤ xs.length ∧ μ = j ∧ t 0 = .yld i ∧ t 1 = .sh [.ssl (encs c32 xs) xs.length false] ∧ t 3 = I (j - 1) ∧ Inv j H n) xs.length ?_ ?_
  · exact ⟨xs.length, Nat.le_refl _, rfl, by simp, by simp, by simp [hw], h0⟩
  · rintro J hJ μ t H n ⟨j, hj, hμ, h0, h1, h3, hinv⟩
    cases j with
    | zero =>
      simp [h0, h1, h3]
      iterate 4 (try (refine evS_sound (f := 4) ?_; simp [h0, h1, h3]))
      exact hn _ _ _ (.tup []) rfl hinv
    | succ j =>
      have e3 : ((j + 1 : Nat) : Int) - 1 = j := by omega
      rw [e3] at h3
      have hlt : j < xs.length := by omega
      have hx : xs[j]? = some (xs[j]'(by omega)) := by simp
      have hd : partOf T.T 32 (List.drop (j * 4) (encs c32 xs)) 0 = some (.agg (c32 xs[j])) := part_agg (e := c32) (z := 4) T.t32 rfl rfl xs j hlt
      simp [h0, h1, h3]
      iterate 8 (try (refine evS_sound (f := 4) ?_; simp [h0, h1, h3, hd, hlt]))
      refine Stk.round rfl rfl (by simp [h0]) (hI _ _ _ hinv) hps hk (by simpa [h0, h1, h3] using hround j _ hx H n hinv) ?_
      rintro b H' n' ⟨rfl, hinv'⟩
      have hw : IntKind.i64.wrap ((j : Int) - 1) = (j : Int) - 1 := wrap64_id (by omega) (by omega)
      refine evS_sound (f := 4) ?_
      simp [h0, h1, h3, hw]
      iterate 6 (try (refine evS_sound (f := 4) ?_; simp [h0, h1, h3, hw]))
      exact ⟨j, by omega, hJ _ _ _ _ ⟨j, by omega, rfl, by simp [h0], by simp [h1], by simp, hinv'⟩⟩
end Go.Proofs.Ytappiofmkoelnaa.M
