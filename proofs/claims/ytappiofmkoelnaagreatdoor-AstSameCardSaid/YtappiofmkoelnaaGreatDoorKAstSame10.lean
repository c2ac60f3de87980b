/-
  For AstSame: texts of the road to it, 11 of 16.
-/
import Derived.Test.YtappiofmkoelnaaGreatDoorKAstSame9
import Derived.WalkKit
import Derived.ProofKit
import Derived.OpenShut
import Derived.ShutString
import Derived.ChangeOld
import Derived.Below
import Derived.SizedLaws
import Derived.Carry
section
namespace Go.Proofs.YtappiofmkoelnaaGreatDoorW.Ah
open Go.ChangeShapes Go.WideShapes Go.ChangeAt Go.RowKit
set_option linter.unusedVariables false
set_option linter.unusedSimpArgs false
def TypA (T : Tab) (t : Nat) (a : AV) : Prop := ∃ cs i, T t = some i ∧ Typ T t cs ∧ (if aggK i.k = true then a = .agg cs else cs = [a])
def plainI (i : TI) : Bool :=
 match i.k with
 | .bool | .int _ | .str | .struct _ => true
 | .slice _ => i.size == 1
 | _ => false
theorem open_arg {H : Type} {enc : TypeId × Value → H} {P : Program} {T : Tab} (hT : TOk P T) {W : World} {spare : Nat → Bool} {held : Bool} {t : Nat} {v : Value} {d : DataW H} {ps : List MemPlace} {base : Nat}
  (h : DataW.Trod enc P W 0 spare held t v d ps) (hwt : ∀ w ∈ d.weights P t, w ≤ reachBytes) (hv : Value.okWide P W .any base t v) {i : TI} (ht : T t = some i) (hk : plainI i = true) : ∃ a, RepV (env0 W) a v ∧ free a = true ∧ TypA T t a := by
 obtain ⟨fuel, h⟩ := h
 have row := hT.row ht
 have one : (∀ cs, v ≠ .agg cs) → aggK i.k = false → v.cells.toList.length = P.cellsOf t → ∃ a, RepV (env0 W) a v ∧ free a = true ∧ TypA T t a := by
  intro hn hg hl
  obtain ⟨as', q1, q2, q3, q4⟩ := open_trod hT fuel t _ d ps h hwt hl
  have hc : v.cells = #[v] := by cases v <;> first | rfl | exact absurd rfl (hn _)
  rw [hc] at q1 q2
  match as', q1, q2, q3, q4 with
  | [a], q1, _, q3, q4 =>
   simp only [RepL] at q1
   simp only [freeL, Bool.and_true] at q3
   exact ⟨a, q1.1, q3, [a], i, ht, q4, by rw [hg]; simp⟩
 have hce := cellsOf_eq hT ht
 cases hk' : i.k with
 | bool =>
  obtain ⟨b, rfl⟩ := okWide_bool (row.bool hk') hv
  obtain ⟨as', q1, q2, q3, q4⟩ : ∃ as', RepL (env0 W) as' [Value.bool b] ∧ as'.length = 1 ∧ freeL as' = true ∧ Typ T t as' := ⟨[.sc (.bool b)], by simp [RepL, RepV], rfl, rfl, .bool b ht hk'⟩
  exact ⟨.sc (.bool b), rep_sc _, rfl, _, i, ht, .bool b ht hk', by rw [hk']; simp [aggK]⟩
 | int k =>
  obtain ⟨n, rfl⟩ := okWide_int (row.int hk') hv
  cases fuel with
  | zero => simp [DataW.trod] at h
  | succ fuel =>
   unfold DataW.trod at h
   rw [row.int hk'] at h
   have hw : (Lit.int k n).wf = true := by
    simp only [Value.cells] at h
    by_cases hc : (Lit.int k n).wf = true
    ·exact hc
    ·simp [hc] at h
   exact ⟨.sc (.int k n), rep_sc _, rfl, _, i, ht, .int n ht hk' hw, by rw [hk']; simp [aggK]⟩
 | str =>
  obtain ⟨s, rfl⟩ := okWide_string (row.str hk') hv
  cases fuel with
  | zero => simp [DataW.trod] at h
  | succ fuel =>
   unfold DataW.trod at h
   rw [row.str hk'] at h
   have hw : s.size ≤ maxLen := by
    simp only [Value.cells] at h
    by_cases hc : s.size ≤ maxLen
    ·exact hc
    ·simp [hc] at h
   exact ⟨.sc (.string s), rep_sc _, rfl, _, i, ht, .str s ht hk' hw, by rw [hk']; simp [aggK]⟩
 | slice e =>
  obtain ⟨x, len, cap, rfl⟩ := okWide_slice (row.slice hk') hv
  obtain ⟨info, z, h1, h2, _, h4, h5⟩ := row.info
  have hsz : P.cellsOf t = 1 := by rw [hce]; unfold plainI at hk; rw [hk'] at hk; simpa using hk
  exact one (fun cs e => by cases e) (by rw [hk']; rfl) (by rw [hsz]; rfl)
 | struct fs =>
  obtain ⟨fs', hu, _⟩ := row.struct hk'
  obtain ⟨cs, rfl, hcs⟩ := okWide_struct hu hv
  obtain ⟨as', q1, q2, q3, q4⟩ := open_trod hT fuel t _ d ps h hwt (by simpa [Value.cells] using hcs)
  exact ⟨.agg as', by simp only [RepV]; exact ⟨cs, rfl, by simpa [Value.cells] using q2, by simpa [Value.cells] using q1⟩, by simpa [free] using q3, as', i, ht, q4, by rw [hk']; simp [aggK]⟩
 | _ => unfold plainI at hk; rw [hk'] at hk; simp at hk
inductive TypAs (T : Tab) : List Nat → List AV → Prop
 | nil : TypAs T [] []
 | cons {t : Nat} {ts : List Nat} {a : AV} {as' : List AV} : TypA T t a → TypAs T ts as' → TypAs T (t :: ts) (a :: as')
theorem open_args {H : Type} {enc : TypeId × Value → H} {P : Program} {T : Tab} (hT : TOk P T) {W : World} {spare : Nat → Bool} {held : Bool} {base : Nat} : ∀ {ts : List Nat} {vs : List Value} {ds : List (DataW H)} {ps : List MemPlace},
  DataW.TrodAll enc P W 0 spare held ts vs ds ps → (∀ w ∈ DataW.weightsEach P ts ds, w ≤ reachBytes) → (∀ (j : Nat) t v, ts[j]? = some t → vs[j]? = some v → Value.okWide P W .any base t v) → (ts.all fun t => match T t with | some i => plainI i | none => false) = true →
  ∃ as', RepL (env0 W) as' vs ∧ as'.length = vs.length ∧ freeL as' = true ∧ TypAs T ts as'
 | [], [], _, _, _, _, _, _ => ⟨[], by simp [RepL], rfl, rfl, .nil⟩
 | [], _ :: _, _, _, h, _, _, _ => by simp [DataW.TrodAll] at h
 | t :: ts, vs, ds, ps, h, hwt, hv, hk => by
  obtain ⟨v, vs', d, ds', p, q, rfl, rfl, rfl, h0, r0⟩ := trodAll_cons h
  simp only [List.all_cons, Bool.and_eq_true] at hk
  obtain ⟨as', q1, q2, q3, q4⟩ := open_args hT r0 (fun w hw => hwt w (by rw [DataW.weightsEach, List.mem_append]; exact .inr hw)) (fun j t v ht hv' => hv (j + 1) t v (by simpa using ht) (by simpa using hv')) hk.2
  cases ht : T t with
  | none => rw [ht] at hk; cases hk.1
  | some i =>
   rw [ht] at hk
   obtain ⟨a, g1, g2, g3⟩ := open_arg hT h0 (fun w hw => hwt w (by rw [DataW.weightsEach, List.mem_append]; exact .inl hw)) (hv 0 t v (by simp) (by simp)) ht hk.1
   exact ⟨a :: as', by simp only [RepL]; exact ⟨g1, q1⟩, by simp [q2], by simp [freeL, g2, q3], .cons g3 q4⟩
theorem stay_args {H : Type} {enc : TypeId × Value → H} {P : Program} (hl : laidOutB P = true) {W W' : World} (hb : Below W.heap.size W W') : ∀ {ts : List Nat} {vs : List Value} {ds : List (DataW H)} {ps : List MemPlace},
  DataW.TrodAll enc P W 0 (fun _ => true) true ts vs ds ps → (ts.all fun t => P.readableRec t && decide (t < P.types.size)) = true →
  DataW.TrodAll enc P W' 0 (fun b => decide (b < W.heap.size)) true ts vs ds ps
 | [], [], _, _, h, _ => by cases ‹List (DataW H)› <;> simp_all [DataW.TrodAll]
 | [], _ :: _, _, _, h, _ => by simp [DataW.TrodAll] at h
 | t :: ts, vs, ds, ps, h, hk => by
  obtain ⟨v, vs', d, ds', p, q, rfl, rfl, rfl, h0, r0⟩ := trodAll_cons h
  simp only [List.all_cons, Bool.and_eq_true, decide_eq_true_eq] at hk
  have lt : ∀ x ∈ p, x.block < W.heap.size := by obtain ⟨m, hm⟩ := h0; exact DataW.trod_lt m _ _ _ hm
  exact trodAll_cons_mk (Below.trod hl hk.1.1 hk.1.2 h0 hb lt) (stay_args hl hb r0 hk.2)
theorem trodAll_len {H : Type} {enc : TypeId × Value → H} {P : Program} {W : World} {base : Nat} {spare : Nat → Bool} {held : Bool} : ∀ {ts : List Nat} {vs : List Value} {ds : List (DataW H)} {ps : List MemPlace}, DataW.TrodAll enc P W base spare held ts vs ds ps → ds.length = ts.length
 | [], [], ds, _, h => by cases ds <;> simp_all [DataW.TrodAll]
 | [], _ :: _, _, _, h => by simp [DataW.TrodAll] at h
 | t :: ts, vs, ds, ps, h => by
  obtain ⟨v, vs', d, ds', p, q, rfl, rfl, rfl, h0, r0⟩ := trodAll_cons h
  simp [trodAll_len r0]
theorem law_calls {P : Program} {T : Tab} (hT : TOk P T) {f : FuncId} {as' : List AV} {vs : Array Value} {W : World} (hG : GlobOk (env0 W)) (h : RunF P T f as' (B true)) (hr : RepL (env0 W) as' vs.toList) (hl : as'.length = vs.size) :
  Calls P f vs W fun e W' => e = .returned (.bool true) ∧ Below W.heap.size W W' := by
 obtain ⟨H', n', h⟩ := h
 refine (Run.sound hT h (env0 W) vs ⟨fun i blk h => (by cases h), fun i l h => (by cases h), fun i j l l' h => (by cases h), hG⟩ (fun b h => h.elim) rfl hr hl).mono fun e W' he => ?_
 obtain ⟨E', v, rfl, rfl, q1, _, _, _, q5⟩ := he
 rw [RepV.sc_inv q5]
 exact ⟨rfl, q1.os, q1.tape, q1.output, q1.size, fun b hb => q1.keep b hb fun i l h => by cases h⟩
end Go.Proofs.YtappiofmkoelnaaGreatDoorW.Ah
end
