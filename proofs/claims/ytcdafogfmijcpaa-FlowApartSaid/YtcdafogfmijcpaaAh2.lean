/-
  The operations that leave the memory as it is yield in the model what the evaluator says.
-/
import Derived.Test.YtcdafogfmijcpaaAh1
namespace Go.Proofs.YtcdafogfmijcpaaW.Ah
set_option linter.unusedVariables false
set_option linter.unusedSimpArgs false

section
variable {P : Program} {w : World}

theorem run_info {t : Nat} {i : TypeInfo} (h : P.info? t = some i) : (typeInfo t).run P w = .ok i w := by
  simp [typeInfo, h]
theorem run_under {t : Nat} {d : TypeDesc} (h : P.underlying t = some d) : (underlying t).run P w = .ok d w := by
  simp [underlying, h]
theorem run_size {t : Nat} {i : TypeInfo} (h : P.info? t = some i) : (sizeOf t).run P w = .ok i.size w := by
  simp [sizeOf, run_info h]
theorem run_zero {t : Nat} {i : TypeInfo} {z : Value} (h : P.info? t = some i) (hz : i.zero = some z) : (zeroValue t).run P w = .ok z w := by
  simp [zeroValue, run_info h, hz]

/-- A row of the type table, in the program. -/
structure Row (P : Program) (t : Nat) (i : TI) : Prop where
  size : ∀ w, (sizeOf t).run P w = .ok i.size w
  info : ∃ info z, P.info? t = some info ∧ info.size = i.size ∧ info.bytes = i.bytes ∧ info.zero = some z ∧ z.cells.toList = i.zero
  under : ∃ d, P.underlying t = some d ∧ (∀ w, (underlying t).run P w = .ok d w) ∧ TK.fits d i.k = true
  agg : ∀ w, (isAgg t).run P w = .ok (aggK i.k) w

theorem TOk.row {T : Tab} (h : TOk P T) {t : Nat} {i : TI} (ht : T t = some i) : Row P t i := by
  obtain ⟨⟨info, z, h1, h2, h3, h4, h5⟩, ⟨d, h6, h7, h8⟩, _, _, _⟩ := h t i ht
  refine ⟨fun w => by rw [run_size h1, h2], ⟨info, z, h1, h2, h3, h4, h5⟩, ⟨d, h6, fun w => run_under h6, h7⟩, fun w => ?_⟩
  have : (isAgg t).run P w = .ok (aggD d) w := by
    simp only [isAgg, Sem.run_bind, run_under h6, Result.andThen_ok]
    cases d <;> rfl
  rw [this]
  have : aggD d = aggK i.k := by
    revert h7 h8
    cases i.k <;> cases d <;> simp [TK.fits, aggD, aggK]
  rw [this]

theorem Row.int {t : Nat} {i : TI} (r : Row P t i) {k : IntKind} (h : i.k = .int k) : P.underlying t = some (.int k) := by
  obtain ⟨d, h1, _, h2⟩ := r.under
  rw [h] at h2; cases d <;> simp [TK.fits] at h2; rw [h1, h2]
theorem Row.bool {t : Nat} {i : TI} (r : Row P t i) (h : i.k = .bool) : P.underlying t = some .bool := by
  obtain ⟨d, h1, _, h2⟩ := r.under
  rw [h] at h2; cases d <;> simp [TK.fits] at h2; rw [h1]
theorem Row.str {t : Nat} {i : TI} (r : Row P t i) (h : i.k = .str) : P.underlying t = some .string := by
  obtain ⟨d, h1, _, h2⟩ := r.under
  rw [h] at h2; cases d <;> simp [TK.fits] at h2; rw [h1]
theorem Row.slice {t : Nat} {i : TI} (r : Row P t i) {e : Nat} (h : i.k = .slice e) : P.underlying t = some (.slice e) := by
  obtain ⟨d, h1, _, h2⟩ := r.under
  rw [h] at h2; cases d <;> simp [TK.fits] at h2; rw [h1, h2]
theorem Row.arr {t : Nat} {i : TI} (r : Row P t i) {n e : Nat} (h : i.k = .arr n e) : P.underlying t = some (.array n e) := by
  obtain ⟨d, h1, _, h2⟩ := r.under
  rw [h] at h2; cases d <;> simp [TK.fits] at h2; rw [h1, h2.1, h2.2]
theorem Row.ptr {t : Nat} {i : TI} (r : Row P t i) {e : Nat} (h : i.k = .ptr e) : P.underlying t = some (.pointer e) := by
  obtain ⟨d, h1, _, h2⟩ := r.under
  rw [h] at h2; cases d <;> simp [TK.fits] at h2; rw [h1, h2]
theorem Row.func {t : Nat} {i : TI} (r : Row P t i) (h : i.k = .func) : ∃ a b c, P.underlying t = some (.func a b c) := by
  obtain ⟨d, h1, _, h2⟩ := r.under
  rw [h] at h2; cases d <;> simp [TK.fits] at h2; exact ⟨_, _, _, h1⟩
theorem Row.struct {t : Nat} {i : TI} (r : Row P t i) {l : List (Nat × Nat)} (h : i.k = .struct l) : ∃ fs, P.underlying t = some (.struct fs) ∧ fs.toList.map (fun f => (f.offset, f.type)) = l := by
  obtain ⟨d, h1, _, h2⟩ := r.under
  rw [h] at h2; cases d <;> simp [TK.fits] at h2; exact ⟨_, h1, h2⟩

end

theorem RepL.get {E : Env} {as : List AV} {vs : List Value} (h : RepL E as vs) {i : Nat} {a : AV} (ha : as[i]? = some a) : ∃ v, vs[i]? = some v ∧ RepV E a v := (RepL.iff.1 h).2 i a ha
theorem RepL.length {E : Env} {as : List AV} {vs : List Value} (h : RepL E as vs) : as.length ≤ vs.length := (RepL.iff.1 h).1
theorem RepL.drop {E : Env} {as : List AV} {vs : List Value} (h : RepL E as vs) (k : Nat) : RepL E (as.drop k) (vs.drop k) := by
  rw [RepL.iff] at *
  refine ⟨by simp; omega, fun i a ha => ?_⟩
  rw [List.getElem?_drop] at ha ⊢
  exact h.2 _ _ ha
theorem RepL.take {E : Env} {as : List AV} {vs : List Value} (h : RepL E as vs) (k : Nat) : RepL E (as.take k) (vs.take k) := by
  rw [RepL.iff] at *
  refine ⟨by simp; omega, fun i a ha => ?_⟩
  rw [List.getElem?_take] at ha ⊢
  split at ha
  · rename_i hlt; rw [if_pos hlt]; exact h.2 _ _ ha
  · cases ha
theorem RepL.of_take {E : Env} {as : List AV} {vs : List Value} (h : RepL E as vs) (k : Nat) : RepL E (as.take k) vs := by
  rw [RepL.iff] at *
  refine ⟨by simp; omega, fun i a ha => ?_⟩
  rw [List.getElem?_take] at ha
  split at ha
  · exact h.2 _ _ ha
  · cases ha
theorem RepL.more {E : Env} {as : List AV} {vs us : List Value} (h : RepL E as vs) : RepL E as (vs ++ us) := by
  rw [RepL.iff] at *
  refine ⟨by simp; omega, fun i a ha => ?_⟩
  obtain ⟨v, hv, hr⟩ := h.2 i a ha
  exact ⟨v, by rw [List.getElem?_append_left (by simpa using (List.getElem?_eq_some_iff.1 hv).1)]; exact hv, hr⟩
theorem RepL.append {E : Env} {as bs : List AV} {vs us : List Value} (h : RepL E as vs) (hl : as.length = vs.length) (k : RepL E bs us) : RepL E (as ++ bs) (vs ++ us) := by
  rw [RepL.iff] at *
  refine ⟨by simp; omega, fun i a ha => ?_⟩
  rcases Nat.lt_or_ge i as.length with hi | hi
  · rw [List.getElem?_append_left hi] at ha
    obtain ⟨v, hv, hr⟩ := h.2 i a ha
    exact ⟨v, by rw [List.getElem?_append_left (by omega)]; exact hv, hr⟩
  · rw [List.getElem?_append_right hi] at ha
    obtain ⟨v, hv, hr⟩ := k.2 _ a ha
    exact ⟨v, by rw [List.getElem?_append_right (by omega), ← hl]; exact hv, hr⟩

theorem RepL.cellsOf {E : Env} {a : AV} {v : Value} (h : RepV E a v) (ho : partOk a = true) : RepL E (Ah.cellsOf a) v.cells.toList ∧ (Ah.cellsOf a).length = v.cells.toList.length := by
  cases a with
  | agg cs =>
    simp only [RepV] at h
    obtain ⟨x, rfl, hl, hr⟩ := h
    exact ⟨hr, hl⟩
  | sc v =>
    simp only [RepV] at h; subst h
    cases v <;> simp [partOk, cellOk, Value.oneCell'] at ho <;> simp [Ah.cellsOf, RepL, RepV, Value.cells]
  | own i o => have h' := h; simp only [RepV] at h; obtain ⟨_, a, rfl, _⟩ := h; simp [Ah.cellsOf, RepL, h', Value.cells]
  | osl i o n c => have h' := h; simp only [RepV] at h; obtain ⟨_, a, cap, rfl, _⟩ := h; simp [Ah.cellsOf, RepL, h', Value.cells]
  | sh cs => have h' := h; simp only [RepV] at h; obtain ⟨b, o, cells, ty, fz, rfl, _⟩ := h; simp [Ah.cellsOf, RepL, h', Value.cells]
  | ssl cs n f => have h' := h; obtain ⟨a, cap, rfl, _⟩ := ssl_shape h; simp only [Ah.cellsOf, RepL, Value.cells]; exact ⟨⟨h', trivial⟩, rfl⟩
  | esl f => have h' := h; simp only [RepV] at h; obtain ⟨a, cap, rfl, _⟩ := h; simp [Ah.cellsOf, RepL, h', Value.cells]
  | omap i => have h' := h; simp only [RepV] at h; obtain ⟨_, a, rfl, _⟩ := h; simp [Ah.cellsOf, RepL, h', Value.cells]
  | yld i => have h' := h; simp only [RepV] at h; obtain ⟨_, a, rfl, _⟩ := h; simp [Ah.cellsOf, RepL, h', Value.cells]
  | fn f x y => have h' := h; simp only [RepV] at h; obtain ⟨a, b, rfl, _⟩ := h; simp [Ah.cellsOf, RepL, h', Value.cells]
  | tup cs => simp [partOk, cellOk] at ho
  | any => simp [partOk, cellOk] at ho


theorem addr_add (b o k : Nat) : (⟨b, o, none⟩ : Addr).add k = ⟨b, o + k, none⟩ := by
  unfold Addr.add; split
  · rename_i h; subst h; rfl
  · rfl

theorem cell_at {w : World} {b o : Nat} {cells : Array Value} {ty : TypeId} {fz : Nat × Nat} (h : w.heap[b]? = some (.cells cells ty fz)) : w.cell? ⟨b, o, none⟩ = cells[o]? := by
  simp [World.cell?, h]

theorem run_load_at {P : Program} {w : World} {b o : Nat} {cells : Array Value} {ty : TypeId} {fz : Nat × Nat} {v : Value} (h : w.heap[b]? = some (.cells cells ty fz)) (hv : cells[o]? = some v) :
    (load ⟨b, o, none⟩).run P w = .ok v w := by
  rw [run_load]; rw [cell_at h, hv]

theorem run_loadCellsFrom {P : Program} {w : World} {b o : Nat} {cells : Array Value} {ty : TypeId} {fz : Nat × Nat} (h : w.heap[b]? = some (.cells cells ty fz)) :
    ∀ (n i : Nat) (acc : Array Value), o + i + n ≤ cells.size → (loadCellsFrom ⟨b, o, none⟩ i n acc).run P w = .ok (acc ++ cells.extract (o + i) (o + i + n)) w
  | 0, i, acc, _ => by simp [loadCellsFrom]; omega
  | n + 1, i, acc, hn => by
    have hlt : o + i < cells.size := by omega
    have hv : cells[o + i]? = some cells[o + i] := by simp [hlt]
    simp only [loadCellsFrom, Sem.run_bind]
    rw [addr_add, run_load_at h hv, Result.andThen_ok, run_loadCellsFrom h n (i + 1) _ (by omega)]
    congr 1
    apply Array.toList_inj.1
    simp only [Array.toList_append, Array.toList_push, Array.toList_extract, List.extract_eq_take_drop, List.append_assoc]
    congr 1
    have e : (o + i + (n + 1)) - (o + i) = n + 1 := by omega
    have e2 : (o + (i + 1) + n) - (o + (i + 1)) = n := by omega
    rw [e, e2]
    rw [show cells.toList.drop (o + i) = cells[o + i] :: cells.toList.drop (o + (i + 1)) by
      rw [List.drop_eq_getElem_cons (by simpa using hlt)]; simp [Nat.add_assoc]]
    simp

theorem run_loadCells {P : Program} {w : World} {b o n : Nat} {cells : Array Value} {ty : TypeId} {fz : Nat × Nat} (h : w.heap[b]? = some (.cells cells ty fz)) (hn : o + n ≤ cells.size) :
    (loadCells ⟨b, o, none⟩ n).run P w = .ok (cells.extract o (o + n)) w := by
  rw [loadCells, run_loadCellsFrom h n 0 #[] (by omega)]
  simp

/-- A load. -/
theorem run_loadVar {P : Program} {T : Tab} (hT : TOk P T) {E : Env} {b base off t : Nat} {cells : Array Value} {ty : TypeId} {fz : Nat × Nat} {cs : List AV} {a : AV}
    (h : E.w.heap[b]? = some (.cells cells ty fz)) (hl : RepL E cs (cells.toList.drop base)) (hp : partOf T t cs off = some a) :
    ∃ v, (loadVar t ⟨b, base + off, none⟩).run P E.w = .ok v E.w ∧ RepV E a v := by
  unfold partOf at hp
  cases ht : T t with
  | none => rw [ht] at hp; cases hp
  | some i =>
    rw [ht] at hp
    have r := hT.row ht
    simp only at hp
    have hlen := hl.length
    simp only [List.length_drop, Array.length_toList] at hlen
    split at hp
    · rename_i hk
      split at hp
      · rename_i hle
        cases hp
        refine ⟨.agg (cells.extract (base + off) (base + off + i.size)), ?_, ?_⟩
        · simp only [loadVar, Sem.run_bind, r.agg, hk, Result.andThen_ok, if_true, r.size]
          by_cases h0 : i.size = 0
          · rw [h0]; simp [loadCells, loadCellsFrom]; omega
          · rw [run_loadCells h (by omega)]; rfl
        · simp only [RepV]
          refine ⟨_, rfl, ?_, ?_⟩
          · simp; omega
          · rw [Array.toList_extract, List.extract_eq_take_drop]
            have := (hl.drop off).take i.size
            rw [List.drop_drop] at this
            rw [show base + off + i.size - (base + off) = i.size by omega]
            exact this
      · cases hp
    · rename_i hk
      obtain ⟨v, hv, hr⟩ := hl.get hp
      rw [List.getElem?_drop, Array.getElem?_toList] at hv
      refine ⟨v, ?_, hr⟩
      simp only [loadVar, Sem.run_bind, r.agg, Result.andThen_ok]
      rw [if_neg (by simpa using hk), run_load_at h hv]

/-- A part of an aggregate. -/
theorem run_part {P : Program} {T : Tab} (hT : TOk P T) {E : Env} {off t : Nat} {cells : Array Value} {cs : List AV} {a : AV}
    (hl : RepL E cs cells.toList) (hp : partOf T t cs off = some a) : ∃ v, (∀ w, (part t cells off).run P w = .ok v w) ∧ RepV E a v := by
  unfold partOf at hp
  cases ht : T t with
  | none => rw [ht] at hp; cases hp
  | some i =>
    rw [ht] at hp
    have r := hT.row ht
    simp only at hp
    have hlen := hl.length
    simp only [Array.length_toList] at hlen
    split at hp
    · rename_i hk
      split at hp
      · rename_i hle
        cases hp
        refine ⟨.agg (cells.extract off (off + i.size)), fun w => ?_, ?_⟩
        · simp only [part, Sem.run_bind, r.agg, hk, Result.andThen_ok, if_true, r.size]; rfl
        · simp only [RepV]
          refine ⟨_, rfl, ?_, ?_⟩
          · simp; omega
          · rw [Array.toList_extract, List.extract_eq_take_drop]
            have := (hl.drop off).take i.size
            rw [show off + i.size - off = i.size by omega]
            exact this
      · cases hp
    · rename_i hk
      obtain ⟨v, hv, hr⟩ := hl.get hp
      rw [Array.getElem?_toList] at hv
      refine ⟨v, fun w => ?_, hr⟩
      simp only [part, Sem.run_bind, r.agg, Result.andThen_ok]
      rw [if_neg (by simpa using hk), hv]; rfl

end Go.Proofs.YtcdafogfmijcpaaW.Ah
