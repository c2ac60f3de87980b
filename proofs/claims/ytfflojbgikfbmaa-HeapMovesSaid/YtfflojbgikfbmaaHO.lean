/-
  The statement HeapMoves: what becomes of a record that is moved.
-/
import Derived.Test.YtfflojbgikfbmaaHN
namespace Go.Proofs.Ytfflojbgikfbmaa.Hea
open Go.Proofs.YtfflojbgikfbmaaW.Ah
open Go.Proofs.Ytfflojbgikfbmaa.Sta (U Er eU wrap_nsub wrap_pred load_u tmod_nat)
set_option maxRecDepth 4000
set_option linter.unusedVariables false
set_option linter.unusedSimpArgs false
attribute [local simp] T.t3 T.t4 T.t5 T.t26 T.t34 T.t39 T.t40 T.t62 T.t63 T.t70 T.t93 T.t144 Op.maxDepth List.range List.range.loop
attribute [-simp] appendAV cellsOf cellOk partOk
attribute [local simp] cellsOf_sc cellOk_sc partOk_sc cellsOf_own cellOk_own partOk_own cellsOf_osl cellOk_osl partOk_osl cellsOf_sh cellOk_sh partOk_sh cellsOf_ssl cellOk_ssl partOk_ssl cellsOf_esl cellOk_esl partOk_esl cellsOf_fn cellOk_fn partOk_fn cellsOf_omap cellOk_omap partOk_omap cellsOf_agg partOk_agg cellsOf_slv cellOk_slv partOk_slv

theorem rd_hv {k t c : Int} (h : Can k t c) : rd (hv k t c) = some (k, t, c) := by
  have e1 : hv k t c / 65536 = k := by unfold hv; unfold Can at h; omega
  have e2 : hv k t c / 256 % 256 = t := by unfold hv; unfold Can at h; omega
  have e3 : hv k t c % 256 = c := by unfold hv; unfold Can at h; omega
  unfold rd
  rw [e1, e2, e3, if_pos]
  exact ⟨by unfold hv; unfold Can at h; omega, by unfold hv; unfold Can at h; omega, h⟩

theorem place_two {a : Nat} (h1 : 1 ≤ a) (h2 : a < 4294967296) : place ((2 * a : Nat) : Int) = some a := by
  unfold place
  rw [if_neg (by omega)]
  congr 1
  omega

theorem pl_two {h : Hp} {a : Nat} (h1 : 1 ≤ a) (h2 : a ≤ 2 * h.half) (h3 : h.half ≤ 16384) : h.pl ((2 * a : Nat) : Int) = some a := by
  unfold Hp.pl; rw [place_two h1 (by omega)]; simp [h2]

theorem recAt_of {h : Hp} {w : Int} {a b : Nat} {x : Int × Int × Int} (h1 : h.pl w = some a) (h2 : 2 ≤ h.span a) (h3 : h.pl (h.ws.getD (a + 1) 0) = some b) (h4 : 2 ≤ h.span b) (h5 : rd (h.ws.getD b 0) = some x) (h6 : size x.1 x.2.1 x.2.2 ≤ h.span b) : h.recAt w = some (b, x) := by
  unfold Hp.recAt
  rw [h1]; simp only
  rw [if_neg (by omega), h3]; simp only
  rw [if_neg (by omega), h5]; simp only
  rw [if_pos h6]

/-- The heap behind Turn. -/
def turned (h : Hp) : Hp := ⟨h.ws, h.half, true, h.half + 1, false, 0⟩
/-- And behind a record was moved. -/
def moved (h : Hp) (A sz : Nat) (v : Int) (l : List Int) : Hp := ⟨((putL h.ws (h.half + 1) (v :: ((2 * (h.half + 1) : Nat) : Int) :: l)).set (A + 1) ((2 * (h.half + 1) : Nat) : Int)).set (A + 1) ((2 * (h.half + 1) : Nat) : Int), h.half, true, h.half + 1 + sz, false, 0⟩

theorem getD_of {l : List Int} {k : Nat} {v : Int} (h : l[k]? = some v) : l.getD k 0 = v := by simp [List.getD_eq_getElem?_getD, h]

structure Facts (h : Hp) (w : Int) (A : Nat) (x : Int × Int × Int) : Prop where
  w : w = ((2 * A : Nat) : Int)
  A1 : 1 ≤ A
  can : Can x.1 x.2.1 x.2.2
  fit : A + size x.1 x.2.1 x.2.2 ≤ h.half + 1
  wA : h.ws[A]? = some (hv x.1 x.2.1 x.2.2)
  wA1 : h.ws[A + 1]? = some ((2 * A : Nat) : Int)
  len : h.ws.length = 2 * h.half + 1
  lo : 16 ≤ h.half
  hi : h.half ≤ 16384

theorem turned_rec {h : Hp} {w : Int} {A : Nat} {x : Int × Int × Int} (f : Facts h w A x) : (turned h).recAt w = some (A, x) ∧ (turned h).pl w = some A ∧ 2 ≤ (turned h).span A := by
  have hsz := size_can f.can
  have h1 := f.A1
  have h2 := f.fit
  have h3 := f.hi
  have hs : (turned h).span A = h.half + 1 - A := by unfold Hp.span turned; simp only; rw [if_pos (by omega)]
  have e2 : (turned h).pl w = some A := by rw [f.w]; exact pl_two f.A1 (by show A ≤ 2 * h.half; omega) f.hi
  refine ⟨recAt_of e2 (by omega) ?_ (by omega) ?_ (by omega), e2, by omega⟩
  · show (turned h).pl (h.ws.getD (A + 1) 0) = _
    rw [getD_of f.wA1]; exact pl_two f.A1 (by show A ≤ 2 * h.half; omega) f.hi
  · show rd (h.ws.getD A 0) = _
    rw [getD_of f.wA]; exact rd_hv f.can

theorem moved_at {h : Hp} {w : Int} {A : Nat} {x : Int × Int × Int} (f : Facts h w A x) (l : List Int) (hl : l.length = size x.1 x.2.1 x.2.2 - 2) (hroom : size x.1 x.2.1 x.2.2 ≤ h.half) :
    (moved h A (size x.1 x.2.1 x.2.2) (hv x.1 x.2.1 x.2.2) l).ws.getD (A + 1) 0 = ((2 * (h.half + 1) : Nat) : Int) ∧ (moved h A (size x.1 x.2.1 x.2.2) (hv x.1 x.2.1 x.2.2) l).ws.getD (h.half + 1) 0 = hv x.1 x.2.1 x.2.2 ∧ (moved h A (size x.1 x.2.1 x.2.2) (hv x.1 x.2.1 x.2.2) l).ws.getD (h.half + 1 + 1) 0 = ((2 * (h.half + 1) : Nat) : Int) := by
  have hsz := size_can f.can
  have h1 := f.A1
  have h2 := f.fit
  have h3 := f.hi
  have hlen := f.len
  obtain ⟨Q, hQ⟩ : ∃ Q, Q = putL h.ws (h.half + 1) (hv x.1 x.2.1 x.2.2 :: ((2 * (h.half + 1) : Nat) : Int) :: l) := ⟨_, rfl⟩
  have hQl : Q.length = 2 * h.half + 1 := by rw [hQ, putL_len (by simp; omega), hlen]
  have q0 : Q[h.half + 1]? = some (hv x.1 x.2.1 x.2.2) := by
    have := putL_in (ws := h.ws) (l := hv x.1 x.2.1 x.2.2 :: ((2 * (h.half + 1) : Nat) : Int) :: l) (a := h.half + 1) (k := 0) (by omega) (by simp)
    rw [hQ]; simpa using this
  have q1 : Q[h.half + 1 + 1]? = some ((2 * (h.half + 1) : Nat) : Int) := by
    have := putL_in (ws := h.ws) (l := hv x.1 x.2.1 x.2.2 :: ((2 * (h.half + 1) : Nat) : Int) :: l) (a := h.half + 1) (k := 1) (by omega) (by simp)
    rw [hQ]; simpa using this
  have hm : (moved h A (size x.1 x.2.1 x.2.2) (hv x.1 x.2.1 x.2.2) l).ws = (Q.set (A + 1) ((2 * (h.half + 1) : Nat) : Int)).set (A + 1) ((2 * (h.half + 1) : Nat) : Int) := by rw [hQ]; rfl
  refine ⟨getD_of ?_, getD_of ?_, getD_of ?_⟩ <;> rw [hm]
  · rw [List.getElem?_set_self (by simp; omega)]
  · rw [List.getElem?_set_ne (by omega), List.getElem?_set_ne (by omega), q0]
  · rw [List.getElem?_set_ne (by omega), List.getElem?_set_ne (by omega), q1]

theorem moved_rec {h : Hp} {w : Int} {A : Nat} {x : Int × Int × Int} (f : Facts h w A x) (l : List Int) (hl : l.length = size x.1 x.2.1 x.2.2 - 2) (hroom : size x.1 x.2.1 x.2.2 ≤ h.half) (h2' : Hp) (hh : h2' = moved h A (size x.1 x.2.1 x.2.2) (hv x.1 x.2.1 x.2.2) l) :
    h2'.recAt w = some (h.half + 1, x) ∧ h2'.pl w = some A ∧ 2 ≤ h2'.span A ∧ h2'.recAt ((2 * (h.half + 1) : Nat) : Int) = some (h.half + 1, x) ∧ h2'.pl ((2 * (h.half + 1) : Nat) : Int) = some (h.half + 1) ∧ 2 ≤ h2'.span (h.half + 1) ∧ h2'.usedP w = false ∧ h2'.usedP ((2 * (h.half + 1) : Nat) : Int) = true ∧ h2'.ws.getD (A + 1) 0 = ((2 * (h.half + 1) : Nat) : Int) := by
  obtain ⟨m1, m2, m3⟩ := moved_at f l hl hroom
  rw [← hh] at m1 m2 m3
  have hsz := size_can f.can
  have h1 := f.A1
  have h2 := f.fit
  have h3 := f.hi
  have h4 := f.lo
  have hhalf : h2'.half = h.half := by rw [hh]; rfl
  have hup : h2'.up = true := by rw [hh]; rfl
  have hs1 : h2'.span A = h.half + 1 - A := by unfold Hp.span; rw [hhalf, if_pos (by omega)]
  have hs2 : h2'.span (h.half + 1) = h.half := by unfold Hp.span; rw [hhalf, if_neg (by omega)]; omega
  have p1 : h2'.pl w = some A := by rw [f.w]; exact pl_two f.A1 (by omega) (by omega)
  have p2 : h2'.pl ((2 * (h.half + 1) : Nat) : Int) = some (h.half + 1) := pl_two (by omega) (by omega) (by omega)
  refine ⟨recAt_of p1 (by omega) (by rw [m1]; exact p2) (by omega) (by rw [m2]; exact rd_hv f.can) (by omega), p1, by omega, recAt_of p2 (by omega) (by rw [m3]; exact p2) (by omega) (by rw [m2]; exact rd_hv f.can) (by omega), p2, by omega, ?_, ?_, m1⟩
  · unfold Hp.usedP; rw [f.w, place_two f.A1 (by omega), hhalf, hup]; simp; omega
  · unfold Hp.usedP; rw [place_two (by omega) (by omega), hhalf, hup]; simp
end Go.Proofs.Ytfflojbgikfbmaa.Hea
