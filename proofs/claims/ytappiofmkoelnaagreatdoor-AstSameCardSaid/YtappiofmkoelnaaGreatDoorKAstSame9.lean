/-
  For AstSame: texts of the road to it, 10 of 16.
-/
import Derived.Test.YtappiofmkoelnaaGreatDoorKAstSame8
import GoSem.ClaimChange
import GoSem.ClaimJoined
section
namespace Go.Proofs.YtappiofmkoelnaaGreatDoorW.Ah
set_option linter.unusedVariables false
set_option linter.unusedSimpArgs false
def env0 (W : World) : Env := ⟨fun _ => False, 0, fun _ => none, W⟩
def contig (T : Tab) : List (Nat × Nat) → Nat → Option Nat
 | [], o => some o
 | (off, ft) :: fs, o =>
  match T ft with
  | some j => if off = o then contig T fs (o + j.size) else none
  | none => none
def shut (T : Tab) (t : Nat) : Prop := ∀ i, T t = some i →
 match i.k with
 | .bool | .int _ | .str => False
 | .struct fs => contig T fs 0 ≠ some i.size
 | .slice e => ∀ ie, T e = some ie → ie.size = 0
 | .arr n e => ∀ ie, T e = some ie → n * ie.size ≠ i.size
 | _ => True
inductive Typ (T : Tab) : Nat → List AV → Prop
 | bool {t : Nat} {i : TI} (b : Bool) : T t = some i → i.k = .bool → Typ T t [.sc (.bool b)]
 | int {t : Nat} {i : TI} {k : IntKind} (n : Int) : T t = some i → i.k = .int k → (Lit.int k n).wf = true → Typ T t [.sc (.int k n)]
 | str {t : Nat} {i : TI} (s : ByteArray) : T t = some i → i.k = .str → s.size ≤ maxLen → Typ T t [.sc (.string s)]
 | slice {t e : Nat} {i ie : TI} (xs : List (List AV)) : T t = some i → i.k = .slice e → T e = some ie → 0 < ie.size → (∀ x ∈ xs, Typ T e x) → (∀ x ∈ xs, x.length = ie.size) → xs.length ≤ maxLen ∧ xs.length * ie.bytes ≤ reachBytes → Typ T t [.ssl xs.flatten xs.length false]
 | struct {t : Nat} {i : TI} {fs : List (Nat × Nat)} (ps : List (List AV)) : T t = some i → i.k = .struct fs → ps.length = fs.length → (∀ (k : Nat) f p, fs[k]? = some f → ps[k]? = some p → Typ T f.2 p) → Typ T t ps.flatten
 | arr {t n e : Nat} {i ie : TI} (xs : List (List AV)) : T t = some i → i.k = .arr n e → T e = some ie → xs.length = n → (∀ x ∈ xs, Typ T e x) → (∀ x ∈ xs, x.length = ie.size) → Typ T t xs.flatten
 | other {t : Nat} (cs : List AV) : shut T t → Typ T t cs
theorem mapM_range {α : Type} {f : Nat → Option α} {n : Nat} {xs : List α} (h : (List.range n).mapM f = some xs) : xs.length = n ∧ ∀ i x, xs[i]? = some x → f i = some x := by
 have key : ∀ (l : List Nat) (xs : List α), l.mapM f = some xs → xs.length = l.length ∧ ∀ (i : Nat) x, xs[i]? = some x → ∃ j, l[i]? = some j ∧ f j = some x := by
  intro l
  induction l with
  | nil => intro xs h; simp at h; subst h; simp
  | cons a l ih =>
   intro xs h
   simp only [List.mapM_cons, Option.bind_eq_bind, Option.pure_def] at h
   cases h1 : f a with
   | none => rw [h1] at h; cases h
   | some x =>
    rw [h1] at h
    simp only [Option.bind_some] at h
    cases h2 : l.mapM f with
    | none => rw [h2] at h; cases h
    | some ys =>
     rw [h2] at h
     simp at h
     subst h
     obtain ⟨q1, q2⟩ := ih ys h2
     refine ⟨by simp [q1], fun i y hy => ?_⟩
     cases i with
     | zero => simp at hy; subst hy; exact ⟨a, by simp, h1⟩
     | succ i => simpa using q2 i y (by simpa using hy)
 obtain ⟨h1, h2⟩ := key _ _ h
 refine ⟨by simpa using h1, fun i x hx => ?_⟩
 obtain ⟨j, hj, hf⟩ := h2 i x hx
 have hi : i < n := by
  have := (List.getElem?_eq_some_iff.1 hj).1
  simpa using this
 rw [List.getElem?_range hi] at hj
 cases hj
 exact hf
theorem RepL.glue {E : Env} {as' bs : List AV} {vs : List Value} (h : RepL E as' vs) (k : RepL E bs (vs.drop as'.length)) : RepL E (as' ++ bs) vs := by
 have hl := h.length
 have := RepL.append (h.take as'.length) (by simp; omega) k
 rw [List.take_length, List.take_append_drop] at this
 exact this
theorem cells_at {W : World} {b o z : Nat} {cs : List Value} (h : W.cells? 0 ⟨b, o, none⟩ z = some cs) : cs.length = z ∧ (0 < z → ∃ cells ty fz, W.heap[b]? = some (.cells cells ty fz) ∧ cs = (cells.toList.drop o).take z) := by
 unfold World.cells? at h
 rw [if_pos (Nat.zero_le _)] at h
 obtain ⟨h1, h2⟩ := mapM_range h
 refine ⟨h1, fun hz => ?_⟩
 have get : ∀ i x, cs[i]? = some x → W.cell? ⟨b, o + i, none⟩ = some x := by
  intro i x hx
  have := h2 i x hx
  rwa [addr_add] at this
 obtain ⟨x, hx⟩ : ∃ x, cs[0]? = some x := ⟨cs[0]'(by omega), by simp [show 0 < cs.length by omega]⟩
 have h0 := get 0 x hx
 unfold World.cell? at h0
 split at h0
 ·rename_i cells ty fz hb
  simp only at hb
  refine ⟨cells, ty, fz, hb, ?_⟩
  apply List.ext_getElem?
  intro i
  rw [List.getElem?_take, List.getElem?_drop]
  split
  ·rename_i hi
   have hc : cs[i]? = some (cs[i]'(by omega)) := by simp [show i < cs.length by omega]
   have := get i _ hc
   rw [cell_at hb] at this
   rw [hc, Array.getElem?_toList, this]
  ·rename_i hi
   rw [List.getElem?_eq_none (by omega)]
 ·cases h0
theorem any_rep {E : Env} (n : Nat) {vs : List Value} (h : vs.length = n) : RepL E (List.replicate n .any) vs := by
 subst h
 induction vs with
 | nil => simp [RepL]
 | cons v vs ih => simp only [List.length_cons, List.replicate_succ, RepL]; exact ⟨by simp [RepV], ih⟩
theorem cellsOf_eq {P : Program} {T : Tab} (hT : TOk P T) {t : Nat} {i : TI} (h : T t = some i) : P.cellsOf t = i.size := by
 obtain ⟨info, z, h1, h2, _⟩ := (hT.row h).info
 simp [Program.cellsOf, h1, h2]
theorem freeL_replicate (n : Nat) : freeL (List.replicate n .any) = true := by
 induction n with
 | zero => rfl
 | succ n ih => simp [List.replicate_succ, freeL, free, ih]
theorem mapM_at {α β : Type} {f : α → Option β} : ∀ {l : List α} {xs : List β}, l.mapM f = some xs → ∀ (k : Nat) a, l[k]? = some a → ∃ x, xs[k]? = some x ∧ f a = some x
 | [], xs, _, k, a, ha => by simp at ha
 | b :: l, xs, h, k, a, ha => by
  simp only [List.mapM_cons, Option.bind_eq_bind, Option.pure_def] at h
  cases h1 : f b with
  | none => rw [h1] at h; cases h
  | some x =>
   rw [h1] at h
   simp only [Option.bind_some] at h
   cases h2 : l.mapM f with
   | none => rw [h2] at h; cases h
   | some ys =>
    rw [h2] at h
    simp at h
    subst h
    cases k with
    | zero => simp at ha; subst ha; exact ⟨x, by simp, h1⟩
    | succ k =>
     obtain ⟨y, q1, q2⟩ := mapM_at h2 k a (by simpa using ha)
     exact ⟨y, by simpa using q1, q2⟩
theorem bytesOf_eq {P : Program} {T : Tab} (hT : TOk P T) {t : Nat} {i : TI} (h : T t = some i) : P.bytesOf t = i.bytes := by
 obtain ⟨info, z, h1, _, h2, _⟩ := (hT.row h).info
 simp [Program.bytesOf, h1, h2]
theorem weightsAll_mem {H : Type} {P : Program} {e : TypeId} {w : Nat} : ∀ {l : List (DataW H)} {d : DataW H}, d ∈ l → w ∈ d.weights P e → w ∈ DataW.weightsAll P e l
 | [], _, h, _ => by simp at h
 | x :: l, d, h, hw => by
  rw [DataW.weightsAll, List.mem_append]
  rcases List.mem_cons.1 h with rfl | h
  ·exact .inl hw
  ·exact .inr (weightsAll_mem h hw)
theorem weightsEach_mem {H : Type} {P : Program} {w : Nat} : ∀ {ts : List TypeId} {l : List (DataW H)} (k : Nat) {t : TypeId} {d : DataW H}, ts[k]? = some t → l[k]? = some d → w ∈ d.weights P t → w ∈ DataW.weightsEach P ts l
 | [], _, k, t, d, h, _, _ => by simp at h
 | _ :: _, [], k, t, d, _, h, _ => by simp at h
 | t0 :: ts, d0 :: l, 0, t, d, h1, h2, hw => by
  simp at h1 h2; subst h1; subst h2
  rw [DataW.weightsEach, List.mem_append]; exact .inl hw
 | t0 :: ts, d0 :: l, k + 1, t, d, h1, h2, hw => by
  rw [DataW.weightsEach, List.mem_append]; exact .inr (weightsEach_mem k (by simpa using h1) (by simpa using h2) hw)
theorem weightsEach_more {H : Type} {P : Program} {w : Nat} {us : List TypeId} {es : List (DataW H)} : ∀ {ts : List TypeId} {l : List (DataW H)}, w ∈ DataW.weightsEach P ts l → w ∈ DataW.weightsEach P (ts ++ us) (l ++ es)
 | [], _, h => by simp [DataW.weightsEach] at h
 | _ :: _, [], h => by simp [DataW.weightsEach] at h
 | t0 :: ts, d0 :: l, h => by
  rw [DataW.weightsEach, List.mem_append] at h
  rw [List.cons_append, List.cons_append, DataW.weightsEach, List.mem_append]
  exact h.imp id weightsEach_more
theorem open_trod {H : Type} {enc : TypeId × Value → H} {P : Program} {T : Tab} (hT : TOk P T) {W : World} {spare : Nat → Bool} {held : Bool} :
  ∀ (fuel : Nat) (t : Nat) (cs : List Value) (d : DataW H) (ps : List MemPlace), DataW.trod enc P W 0 spare held fuel t cs = some (d, ps) → (∀ w ∈ d.weights P t, w ≤ reachBytes) → cs.length = P.cellsOf t → ∃ as', RepL (env0 W) as' cs ∧ as'.length = cs.length ∧ freeL as' = true ∧ Typ T t as'
 | 0, _, _, _, _, h, _, _ => by simp [DataW.trod] at h
 | fuel + 1, t, cs, d, ps, h, hwt, hlen => by
  have unk : shut T t → ∃ as', RepL (env0 W) as' cs ∧ as'.length = cs.length ∧ freeL as' = true ∧ Typ T t as' :=
   fun hu => ⟨List.replicate cs.length .any, any_rep _ rfl, by simp, freeL_replicate _, .other _ hu⟩
  cases ht : T t with
  | none => exact unk fun i hi => by rw [ht] at hi; cases hi
  | some i =>
   have row := hT.row ht
   have hone : ∀ (v : Value), cs = [v] → ∀ a, RepV (env0 W) a v → free a = true → Typ T t [a] → ∃ as', RepL (env0 W) as' cs ∧ as'.length = cs.length ∧ freeL as' = true ∧ Typ T t as' := by
    intro v e a hr hf hy
    subst e
    exact ⟨[a], by simp [RepL, hr], rfl, by simp [freeL, hf], hy⟩
   cases hk : i.k with
   | bool =>
    unfold DataW.trod at h
    rw [row.bool hk] at h
    split at h <;> first | (rename_i heq _; cases heq; done) | (rename_i heq; cases heq; done) | skip
    ·rename_i b heq
     exact hone _ rfl (.sc (.bool b)) (rep_sc _) rfl (.bool b ht hk)
    ·cases h
   | int k =>
    unfold DataW.trod at h
    rw [row.int hk] at h
    split at h <;> first | (rename_i heq _; cases heq; done) | (rename_i heq; cases heq; done) | skip
    ·rename_i k1 k2 n heq
     cases heq
     split at h
     ·rename_i hc
      obtain ⟨rfl, hw⟩ := hc
      exact hone _ rfl (.sc (.int _ n)) (rep_sc _) rfl (.int n ht hk hw)
     ·cases h
    ·cases h
   | str =>
    unfold DataW.trod at h
    rw [row.str hk] at h
    split at h <;> first | (rename_i heq _; cases heq; done) | (rename_i heq; cases heq; done) | skip
    ·rename_i s heq
     split at h
     ·rename_i hc
      exact hone _ rfl (.sc (.string s)) (rep_sc _) rfl (.str s ht hk hc)
     ·cases h
    ·cases h
   | slice e =>
    cases he : T e with
    | none => exact unk fun j hj => by rw [ht] at hj; cases hj; simp only [hk]; intro ie hie; rw [he] at hie; cases hie
    | some ie =>
     by_cases hz : ie.size = 0
     ·exact unk fun j hj => by rw [ht] at hj; cases hj; simp only [hk]; intro ie' hie; rw [he] at hie; cases hie; exact hz
     ·have hce := cellsOf_eq hT he
      unfold DataW.trod at h
      rw [row.slice hk] at h
      split at h <;> first | (rename_i heq _; cases heq; done) | (rename_i heq; cases heq; done) | skip
      ·exact hone _ rfl (.ssl [] 0 false) (by simp only [RepV]; exact .inr ⟨trivial, trivial, none, 0, rfl, (fun h => by cases h), fun _ => rfl⟩) rfl (.slice [] ht hk he (by omega) (by simp) (by simp) ⟨Nat.zero_le _, by simp⟩)
      ·rename_i e' a len cap heq
       cases heq
       split at h
       case isFalse => cases h
       case isTrue hb =>
        obtain ⟨_, hlc, hcm⟩ := hb
        simp only [Option.bind_eq_some_iff, Option.map_eq_some_iff] at h
        obtain ⟨elems, hel, rest, _, heq2⟩ := h
        have hu := row.slice hk
        have hd : d = .slice (elems.map (·.1)) (rest.map (·.1)) := (congrArg Prod.fst heq2).symm
        have hwt1 : (elems.length + rest.length) * P.bytesOf e ≤ reachBytes := by
         refine hwt _ ?_
         rw [hd]
         simp only [DataW.weights, hu, List.length_map]
         exact List.mem_cons_self
        have hwt2 : ∀ (j : Nat) x, elems[j]? = some x → ∀ w ∈ x.1.weights P e, w ≤ reachBytes := by
         intro j x hx w hw
         refine hwt w ?_
         rw [hd]
         simp only [DataW.weights, hu]
         exact List.mem_cons_of_mem _ (List.mem_append_left _ (weightsAll_mem (List.mem_map.2 ⟨x, List.mem_of_getElem? hx, rfl⟩) hw))
        obtain ⟨hl1, hl2⟩ := mapM_range hel
        by_cases h0 : len = 0
        ·subst h0
         exact hone _ rfl (.ssl [] 0 false) (by simp only [RepV]; exact .inr ⟨trivial, trivial, some a, cap, rfl, (fun h => by cases h), fun h => by cases h⟩) rfl (.slice [] ht hk he (by omega) (by simp) (by simp) ⟨Nat.zero_le _, by simp⟩)
        ·have each : ∀ i, i < len → ∃ cs' as'', W.cells? 0 (a.add (i * ie.size)) ie.size = some cs' ∧ RepL (env0 W) as'' cs' ∧ as''.length = cs'.length ∧ freeL as'' = true ∧ Typ T e as'' := by
          intro i hi
          have hx := hl2 i (elems[i]'(by omega)) (by simp [show i < elems.length by omega])
          rw [hce] at hx
          cases hc : W.cells? 0 (a.add (i * ie.size)) ie.size with
          | none => rw [hc] at hx; cases hx
          | some cs' =>
           rw [hc] at hx
           simp only [Option.bind_some] at hx
           have hcl : cs'.length = ie.size := by
            unfold World.cells? at hc
            rw [if_pos (Nat.zero_le _)] at hc
            exact (mapM_range hc).1
           obtain ⟨as'', q1, q2, q3, q4⟩ := open_trod hT fuel e cs' _ _ hx (hwt2 i _ (by simp [show i < elems.length by omega])) (by rw [hcl, hce])
           exact ⟨cs', as'', rfl, q1, q2, q3, q4⟩
         have hspot : a = ⟨a.block, a.off, none⟩ := by
          obtain ⟨cs', _, hc, _⟩ := each 0 (by omega)
          unfold World.cells? at hc
          rw [if_pos (Nat.zero_le _)] at hc
          have := (mapM_range hc).2 0 (cs'[0]'(by have := (mapM_range hc).1; omega)) (by have := (mapM_range hc).1; simp [show 0 < cs'.length by omega])
          simp only [Nat.zero_mul, Addr.add, if_true] at this
          unfold World.cell? at this
          split at this
          ·split at this
           ·cases this
           ·rename_i hs; cases a; simp at hs; simp [hs]
          ·cases this
         obtain ⟨b, o, rfl⟩ : ∃ b o, a = ⟨b, o, none⟩ := ⟨_, _, hspot⟩
         simp only [addr_add] at each
         obtain ⟨cs0, _, hc0, _⟩ := each 0 (by omega)
         obtain ⟨_, hc0'⟩ := cells_at hc0
         obtain ⟨cells, ty, fz, hb, _⟩ := hc0' (by omega)
         have build : ∀ m, m ≤ len → ∃ xs : List (List AV), xs.length = m ∧ (∀ x ∈ xs, Typ T e x ∧ x.length = ie.size ∧ freeL x = true) ∧ RepL (env0 W) xs.flatten (cells.toList.drop (o + (len - m) * ie.size)) := by
          intro m
          induction m with
          | zero => intro _; exact ⟨[], rfl, by simp, by simp [RepL]⟩
          | succ m ih =>
           intro hm
           obtain ⟨xs, g1, g2, g3⟩ := ih (by omega)
           obtain ⟨cs', as'', r1, r2, r3, r4, r5⟩ := each (len - (m + 1)) (Nat.sub_lt (Nat.pos_of_ne_zero h0) (Nat.succ_pos m))
           obtain ⟨l1, l2⟩ := cells_at r1
           obtain ⟨cells', ty', fz', hb', hcs⟩ := l2 (Nat.pos_of_ne_zero hz)
           rw [hb] at hb'; cases hb'
           refine ⟨as'' :: xs, by simp [g1], ?_, ?_⟩
           ·intro x hx
            rcases List.mem_cons.1 hx with rfl | hx
            ·exact ⟨r5, r3.trans l1, r4⟩
            ·exact g2 x hx
           ·rw [List.flatten_cons]
            refine RepL.glue ?_ ?_
            ·have h2 := r2
             rw [hcs] at h2
             have := h2.more (us := (cells.toList.drop (o + (len - (m + 1)) * ie.size)).drop ie.size)
             rwa [List.take_append_drop] at this
            ·rw [r3, l1, List.drop_drop]
             have : o + (len - (m + 1)) * ie.size + ie.size = o + (len - m) * ie.size := by
              rw [show len - m = len - (m + 1) + 1 by omega, Nat.add_mul]; omega
             rw [this]
             exact g3
         obtain ⟨xs, g1, g2, g3⟩ := build len (Nat.le_refl _)
         simp only [Nat.sub_self, Nat.zero_mul, Nat.add_zero] at g3
         have hfree : freeL xs.flatten = true := by
          clear g1 g3
          induction xs with
          | nil => rfl
          | cons x xs ih => rw [List.flatten_cons, freeL_append, (g2 x (by simp)).2.2, ih (fun y hy => g2 y (by simp [hy]))]; rfl
         refine hone _ rfl (.ssl xs.flatten xs.length false) ?_ (by simpa [free] using hfree) (.slice xs ht hk he (by omega) (fun x hx => (g2 x hx).1) (fun x hx => (g2 x hx).2.1) ⟨by omega, by rw [g1, ← hl1, ← bytesOf_eq hT he]; exact Nat.le_trans (Nat.mul_le_mul_right _ (Nat.le_add_right _ _)) hwt1⟩)
         simp only [RepV]
         refine .inl ⟨b, o, cells, ty, fz, cap, by rw [g1], by omega, (fun h => by cases h), ⟨fun h => h, fun i l h => by cases h⟩, hb, g3⟩
      ·cases h
   | struct fs =>
    obtain ⟨fs', hu, hfs⟩ := row.struct hk
    by_cases hcg : contig T fs 0 = some i.size
    ·unfold DataW.trod at h
     rw [hu] at h
     simp only at h
     rw [if_pos hlen] at h
     simp only [Option.map_eq_some_iff] at h
     obtain ⟨ys, hys, heq2⟩ := h
     have hd : d = .agg (ys.map (·.1)) := (congrArg Prod.fst heq2).symm
     have each : ∀ f ∈ fs'.toList, ∃ y, DataW.trod enc P W 0 spare held fuel f.type ((cs.drop f.offset).take (P.cellsOf f.type)) = some y ∧ ∀ w ∈ y.1.weights P f.type, w ≤ reachBytes := by
      intro f hf
      obtain ⟨k, hk'⟩ := List.getElem?_of_mem hf
      obtain ⟨y, hy1, hy2⟩ := mapM_at hys k f hk'
      refine ⟨y, hy2, fun w hw => hwt w ?_⟩
      rw [hd]
      simp only [DataW.weights, hu]
      exact weightsEach_mem k (by rw [List.getElem?_map, hk']; rfl) (by rw [List.getElem?_map, hy1]; rfl) hw
     have build : ∀ (l : List Field) (off fin : Nat), (∀ f ∈ l, f ∈ fs'.toList) → contig T (l.map fun f => (f.offset, f.type)) off = some fin → fin ≤ cs.length →
       ∃ ps : List (List AV), ps.length = l.length ∧ (∀ (k : Nat) f p, (l.map fun f => (f.offset, f.type))[k]? = some f → ps[k]? = some p → Typ T f.2 p) ∧ RepL (env0 W) ps.flatten (cs.drop off) ∧ off + ps.flatten.length = fin ∧ freeL ps.flatten = true := by
      intro l
      induction l with
      | nil => intro off fin _ hc _; simp [contig] at hc; subst hc; exact ⟨[], rfl, by simp, by simp [RepL], by simp, rfl⟩
      | cons f l ih =>
       intro off fin hsub hc hfin
       simp only [List.map_cons, contig] at hc
       cases hj : T f.type with
       | none => rw [hj] at hc; cases hc
       | some j =>
        rw [hj] at hc
        simp only at hc
        split at hc
        case isFalse => cases hc
        case isTrue ho =>
         obtain ⟨ps, g1, g2, g3, g4, g5⟩ := ih _ fin (fun g hg => hsub g (by simp [hg])) hc hfin
         obtain ⟨y, hy, hyw⟩ := each f (hsub f (by simp))
         have hce := cellsOf_eq hT hj
         have hsz : ((cs.drop f.offset).take (P.cellsOf f.type)).length = P.cellsOf f.type := by
          rw [hce, List.length_take, List.length_drop, ho]; omega
         obtain ⟨as', r1, r2, r3, r4⟩ := open_trod hT fuel f.type _ _ _ hy hyw hsz
         rw [hsz, hce] at r2
         refine ⟨as' :: ps, by simp [g1], ?_, ?_, ?_, ?_⟩
         ·intro k q p hq hp
          cases k with
          | zero => simp at hq hp; subst hq; subst hp; exact r4
          | succ k => exact g2 k q p (by simpa using hq) (by simpa using hp)
         ·rw [List.flatten_cons]
          refine RepL.glue ?_ ?_
          ·have := r1.more (us := (cs.drop f.offset).drop (P.cellsOf f.type))
           rw [List.take_append_drop] at this
           rw [← ho]; exact this
          ·rw [r2, List.drop_drop]; exact g3
         ·rw [List.flatten_cons, List.length_append, r2]; omega
         ·rw [List.flatten_cons, freeL_append, r3, g5]; rfl
     rw [← hfs] at hcg
     have hcl : cs.length = i.size := by rw [hlen, cellsOf_eq hT ht]
     obtain ⟨ps, g1, g2, g3, g4, g5⟩ := build fs'.toList 0 i.size (fun _ h => h) hcg (by omega)
     exact ⟨ps.flatten, by simpa using g3, by omega, g5, .struct ps ht hk (by rw [← hfs, List.length_map]; exact g1) (by rw [← hfs]; exact g2)⟩
    ·exact unk fun j hj => by rw [ht] at hj; cases hj; simp only [hk]; exact hcg
   | arr n e =>
    cases he : T e with
    | none => exact unk fun j hj => by rw [ht] at hj; cases hj; simp only [hk]; intro ie hie; rw [he] at hie; cases hie
    | some ie =>
     by_cases hsz : n * ie.size = i.size
     ·have hce := cellsOf_eq hT he
      unfold DataW.trod at h
      rw [row.arr hk] at h
      simp only at h
      rw [if_pos hlen] at h
      simp only [Option.map_eq_some_iff] at h
      obtain ⟨ys, hys, heq2⟩ := h
      have hua := row.arr hk
      have hd : d = .agg (ys.map (·.1)) := (congrArg Prod.fst heq2).symm
      have hwt2 : ∀ (j : Nat) x, ys[j]? = some x → ∀ w ∈ x.1.weights P e, w ≤ reachBytes := by
       intro j x hx w hw
       refine hwt w ?_
       rw [hd]
       simp only [DataW.weights, hua]
       exact weightsAll_mem (List.mem_map.2 ⟨x, List.mem_of_getElem? hx, rfl⟩) hw
      obtain ⟨hl1, hl2⟩ := mapM_range hys
      have hcl : cs.length = i.size := by rw [hlen, cellsOf_eq hT ht]
      have build : ∀ m, m ≤ n → ∃ xs : List (List AV), xs.length = m ∧ (∀ x ∈ xs, Typ T e x ∧ x.length = ie.size ∧ freeL x = true) ∧ RepL (env0 W) xs.flatten (cs.drop ((n - m) * ie.size)) ∧ xs.flatten.length = m * ie.size := by
       intro m
       induction m with
       | zero => intro _; exact ⟨[], rfl, by simp, by simp [RepL], by simp⟩
       | succ m ih =>
        intro hm
        obtain ⟨xs, g1, g2, g3, g4⟩ := ih (by omega)
        have hx := hl2 (n - (m + 1)) (ys[n - (m + 1)]'(by omega)) (by simp [show n - (m + 1) < ys.length by omega])
        rw [hce] at hx
        have hle : (n - (m + 1)) * ie.size + ie.size ≤ n * ie.size := by rw [← Nat.succ_mul]; exact Nat.mul_le_mul_right _ (by omega)
        have hsz' : ((cs.drop ((n - (m + 1)) * ie.size)).take ie.size).length = ie.size := by
         rw [List.length_take, List.length_drop]; omega
        obtain ⟨as', r1, r2, r3, r4⟩ := open_trod hT fuel e _ _ _ hx (hwt2 (n - (m + 1)) _ (by simp [show n - (m + 1) < ys.length by omega])) (by rw [hsz', hce])
        rw [hsz'] at r2
        refine ⟨as' :: xs, by simp [g1], ?_, ?_, ?_⟩
        ·intro x hx
         rcases List.mem_cons.1 hx with rfl | hx
         ·exact ⟨r4, r2, r3⟩
         ·exact g2 x hx
        ·rw [List.flatten_cons]
         refine RepL.glue ?_ ?_
         ·have := r1.more (us := (cs.drop ((n - (m + 1)) * ie.size)).drop ie.size)
          rwa [List.take_append_drop] at this
         ·rw [r2, List.drop_drop]
          have : (n - (m + 1)) * ie.size + ie.size = (n - m) * ie.size := by
           rw [show n - m = n - (m + 1) + 1 by omega, Nat.add_mul]; omega
          rw [this]; exact g3
        ·rw [List.flatten_cons, List.length_append, r2, g4, Nat.add_mul]; omega
      obtain ⟨xs, g1, g2, g3, g4⟩ := build n (Nat.le_refl _)
      have hfree : freeL xs.flatten = true := by
       clear g1 g3 g4
       induction xs with
       | nil => rfl
       | cons x xs ih => rw [List.flatten_cons, freeL_append, (g2 x (by simp)).2.2, ih (fun y hy => g2 y (by simp [hy]))]; rfl
      exact ⟨xs.flatten, by simpa using g3, by omega, hfree, .arr xs ht hk he g1 (fun x hx => (g2 x hx).1) (fun x hx => (g2 x hx).2.1)⟩
     ·exact unk fun j hj => by rw [ht] at hj; cases hj; simp only [hk]; intro ie' hie; rw [he] at hie; cases hie; exact hsz
   | ptr e => exact unk fun j hj => by rw [ht] at hj; cases hj; simp only [hk]
   | map k e => exact unk fun j hj => by rw [ht] at hj; cases hj; simp only [hk]
   | func => exact unk fun j hj => by rw [ht] at hj; cases hj; simp only [hk]
   | other => exact unk fun j hj => by rw [ht] at hj; cases hj; simp only [hk]
end Go.Proofs.YtappiofmkoelnaaGreatDoorW.Ah
end
