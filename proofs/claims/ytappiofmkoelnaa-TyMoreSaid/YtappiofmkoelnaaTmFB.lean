/-
  Which types have values: the filler's walks.
-/
import Derived.Test.YtappiofmkoelnaaTmFA
import Derived.Test.YtappiofmkoelnaaAhR
namespace Go.Proofs.Ytappiofmkoelnaa.M
open Go.Proofs.YtappiofmkoelnaaW.Ah Go.Proofs.Ytappiofmkoelnaa
set_option maxRecDepth 4000
set_option linter.unusedVariables false
set_option linter.unusedSimpArgs false
attribute [local simp] T.t3 T.t4 T.t9 T.t22 T.t30 T.t32 T.t33 T.t35 T.t37 T.t40 T.t61 T.t62 T.t64 Op.maxDepth List.range List.range.loop
attribute [-simp] appendAV splice

def Calm (H : Mem) (n : Nat) (H' : Mem) (n' : Nat) : Prop := n ≤ n' ∧ ∀ j, j < n → H' j = H j
theorem Calm.rfl' (H : Mem) (n : Nat) : Calm H n H n := ⟨Nat.le_refl _, fun _ _ => rfl⟩
theorem Calm.trans {H H1 H2 : Mem} {n n1 n2 : Nat} (a : Calm H n H1 n1) (b : Calm H1 n1 H2 n2) : Calm H n H2 n2 := ⟨by have := a.1; have := b.1; omega, fun j hj => by rw [b.2 j (by have := a.1; omega), a.2 j hj]⟩

/-- The first of which something is so. -/
theorem indexQ40 {H : Mem} {n : Nat} (g : FuncId) (first caps : List AV) (ts : List api_Type) (φ : api_Type → Bool) (hl : ts.length ≤ maxLen)
    (hp : ∀ x ∈ ts, ∀ H1 n1, Calm H n H1 n1 → RunQ Try.prog T.T g (first ++ [.agg (c40 x)] ++ caps) H1 n1 (fun r H2 n2 => r = B (φ x) ∧ Calm H1 n1 H2 n2)) :
    RunQ Try.prog T.T 40 [.ssl (encs c40 ts) ts.length false, .fn (.func g) first caps] H n (fun r H' n' => (∃ v : Int, r = I v ∧ decide (0 ≤ v) = ts.any φ) ∧ Calm H n H' n') := by
  have hml : maxLen = 9223372036854775807 := rfl
  refine RunQ.ev 9 Try.func40 rfl rfl rfl rfl rfl fun C hr hn => ?_
  simp
  iterate 3 (try (refine evS_sound (f := 6) ?_; simp))
  refine Stk.loop 4 (fun μ t H1 n1 => ∃ q : Nat, q ≤ ts.length ∧ μ = ts.length - q ∧ t 0 = .ssl (encs c40 ts) ts.length false ∧ t 1 = .fn (.func g) first caps ∧ t 7 = I ts.length ∧ t 8 = I q ∧ Calm H n H1 n1 ∧ ∀ (j : Nat) x, j < q → ts[j]? = some x → φ x = false) ts.length
    ⟨0, Nat.zero_le _, rfl, by simp, by simp, by simp, by simp, Calm.rfl' _ _, fun j x hj => by omega⟩ ?_
  rintro J hJ μ t H1 n1 ⟨q, hq, rfl, t0, t1, t7, t8, hc, hno⟩
  by_cases hlt : q < ts.length
  · have hlti : (q : Int) < ts.length := by omega
    have hld : partOf T.T 40 (List.drop (q * 3) (encs c40 ts)) 0 = some (.agg (c40 ts[q])) := part_agg (e := c40) (z := 3) T.t40 rfl rfl ts q hlt
    have wq := wrap_succ q (by omega)
    simp [t0, t1, t7, t8, hlt, hlti]
    iterate 6 (try (refine evS_sound (f := 4) ?_; simp [t0, t1, t7, t8, hlt, hlti, hld]))
    refine Stk.callS 4 (hp ts[q] (List.getElem_mem hlt) H1 n1 hc) rfl rfl rfl (by simp) ?_
    rintro r H2 n2 ⟨rfl, hc2⟩
    cases hb : φ ts[q] with
    | true =>
      simp
      iterate 3 (try (refine evS_sound (f := 4) ?_; simp))
      exact hr _ _ _ (I q) (by simp) ⟨⟨q, rfl, by simp; exact ⟨_, List.getElem_mem hlt, hb⟩⟩, hc.trans hc2⟩
    | false =>
      simp [t8, wq]
      iterate 4 (try (refine evS_sound (f := 4) ?_; simp [t8, wq]))
      refine ⟨ts.length - (q + 1), by omega, hJ _ _ _ _ ⟨q + 1, hlt, rfl, by simp [t0], by simp [t1], by simp [t7], by simp, hc.trans hc2, fun j x hj hx => ?_⟩⟩
      by_cases e : j = q
      · subst e; rw [List.getElem?_eq_getElem hlt] at hx; cases hx; exact hb
      · exact hno j x (by omega) hx
  · have hqe : q = ts.length := by omega
    subst hqe
    simp [t7, t8]
    iterate 4 (try (refine evS_sound (f := 4) ?_; simp))
    refine hr _ _ _ (I (-1)) (by simp) ⟨⟨-1, rfl, ?_⟩, hc⟩
    have : ts.any φ = false := by
      rw [List.any_eq_false]
      intro x hx
      obtain ⟨j, hj, rfl⟩ := List.getElem_of_mem hx
      simp [hno j _ hj (List.getElem?_eq_getElem hj)]
    rw [this]; rfl
/-- The first of which something is so. -/
theorem indexQ24 {H : Mem} {n : Nat} (g : FuncId) (first caps : List AV) (ts : List api_Con) (φ : api_Con → Bool) (hl : ts.length ≤ maxLen)
    (hp : ∀ x ∈ ts, ∀ H1 n1, Calm H n H1 n1 → RunQ Try.prog T.T g (first ++ [.agg (c35 x)] ++ caps) H1 n1 (fun r H2 n2 => r = B (φ x) ∧ Calm H1 n1 H2 n2)) :
    RunQ Try.prog T.T 24 [.ssl (encs c35 ts) ts.length false, .fn (.func g) first caps] H n (fun r H' n' => (∃ v : Int, r = I v ∧ decide (0 ≤ v) = ts.any φ) ∧ Calm H n H' n') := by
  have hml : maxLen = 9223372036854775807 := rfl
  refine RunQ.ev 9 Try.func24 rfl rfl rfl rfl rfl fun C hr hn => ?_
  simp
  iterate 3 (try (refine evS_sound (f := 6) ?_; simp))
  refine Stk.loop 4 (fun μ t H1 n1 => ∃ q : Nat, q ≤ ts.length ∧ μ = ts.length - q ∧ t 0 = .ssl (encs c35 ts) ts.length false ∧ t 1 = .fn (.func g) first caps ∧ t 7 = I ts.length ∧ t 8 = I q ∧ Calm H n H1 n1 ∧ ∀ (j : Nat) x, j < q → ts[j]? = some x → φ x = false) ts.length
    ⟨0, Nat.zero_le _, rfl, by simp, by simp, by simp, by simp, Calm.rfl' _ _, fun j x hj => by omega⟩ ?_
  rintro J hJ μ t H1 n1 ⟨q, hq, rfl, t0, t1, t7, t8, hc, hno⟩
  by_cases hlt : q < ts.length
  · have hlti : (q : Int) < ts.length := by omega
    have hld : partOf T.T 35 (List.drop (q * 2) (encs c35 ts)) 0 = some (.agg (c35 ts[q])) := part_agg (e := c35) (z := 2) T.t35 rfl rfl ts q hlt
    have wq := wrap_succ q (by omega)
    simp [t0, t1, t7, t8, hlt, hlti]
    iterate 6 (try (refine evS_sound (f := 4) ?_; simp [t0, t1, t7, t8, hlt, hlti, hld]))
    refine Stk.callS 4 (hp ts[q] (List.getElem_mem hlt) H1 n1 hc) rfl rfl rfl (by simp) ?_
    rintro r H2 n2 ⟨rfl, hc2⟩
    cases hb : φ ts[q] with
    | true =>
      simp
      iterate 3 (try (refine evS_sound (f := 4) ?_; simp))
      exact hr _ _ _ (I q) (by simp) ⟨⟨q, rfl, by simp; exact ⟨_, List.getElem_mem hlt, hb⟩⟩, hc.trans hc2⟩
    | false =>
      simp [t8, wq]
      iterate 4 (try (refine evS_sound (f := 4) ?_; simp [t8, wq]))
      refine ⟨ts.length - (q + 1), by omega, hJ _ _ _ _ ⟨q + 1, hlt, rfl, by simp [t0], by simp [t1], by simp [t7], by simp, hc.trans hc2, fun j x hj hx => ?_⟩⟩
      by_cases e : j = q
      · subst e; rw [List.getElem?_eq_getElem hlt] at hx; cases hx; exact hb
      · exact hno j x (by omega) hx
  · have hqe : q = ts.length := by omega
    subst hqe
    simp [t7, t8]
    iterate 4 (try (refine evS_sound (f := 4) ?_; simp))
    refine hr _ _ _ (I (-1)) (by simp) ⟨⟨-1, rfl, ?_⟩, hc⟩
    have : ts.any φ = false := by
      rw [List.any_eq_false]
      intro x hx
      obtain ⟨j, hj, rfl⟩ := List.getElem_of_mem hx
      simp [hno j _ hj (List.getElem?_eq_getElem hj)]
    rw [this]; rfl

theorem containsQ30 {H : Mem} {n : Nat} (g : FuncId) (first caps : List AV) (ts : List api_Type) (φ : api_Type → Bool) (hl : ts.length ≤ maxLen)
    (hp : ∀ x ∈ ts, ∀ H1 n1, Calm H n H1 n1 → RunQ Try.prog T.T g (first ++ [.agg (c40 x)] ++ caps) H1 n1 (fun r H2 n2 => r = B (φ x) ∧ Calm H1 n1 H2 n2)) :
    RunQ Try.prog T.T 30 [.ssl (encs c40 ts) ts.length false, .fn (.func g) first caps] H n (fun r H' n' => r = B (ts.any φ) ∧ Calm H n H' n') := by
  refine RunQ.ev 9 Try.func30 rfl rfl rfl rfl rfl fun C hr hn => ?_
  simp
  refine Stk.callS 4 (indexQ40 g first caps ts φ hl hp) rfl rfl rfl (by simp) ?_
  rintro r H2 n2 ⟨⟨v, rfl, hv⟩, hc⟩
  simp
  iterate 4 (try (refine evS_sound (f := 4) ?_; simp))
  exact hr _ _ _ (B (ts.any φ)) (by simp [hv]) ⟨rfl, hc⟩

theorem containsQ27 {H : Mem} {n : Nat} (g : FuncId) (first caps : List AV) (ts : List api_Con) (φ : api_Con → Bool) (hl : ts.length ≤ maxLen)
    (hp : ∀ x ∈ ts, ∀ H1 n1, Calm H n H1 n1 → RunQ Try.prog T.T g (first ++ [.agg (c35 x)] ++ caps) H1 n1 (fun r H2 n2 => r = B (φ x) ∧ Calm H1 n1 H2 n2)) :
    RunQ Try.prog T.T 27 [.ssl (encs c35 ts) ts.length false, .fn (.func g) first caps] H n (fun r H' n' => r = B (ts.any φ) ∧ Calm H n H' n') := by
  refine RunQ.ev 9 Try.func27 rfl rfl rfl rfl rfl fun C hr hn => ?_
  simp
  refine Stk.callS 4 (indexQ24 g first caps ts φ hl hp) rfl rfl rfl (by simp) ?_
  rintro r H2 n2 ⟨⟨v, rfl, hv⟩, hc⟩
  simp
  iterate 4 (try (refine evS_sound (f := 4) ?_; simp))
  exact hr _ _ _ (B (ts.any φ)) (by simp [hv]) ⟨rfl, hc⟩

/-! Maps of names. -/
def MapOk (es : List (Value × AV × Nat)) (f : ByteArray → Option Nat) : Prop :=
  ∀ nm, match f nm with | some i => ∃ q b, findAV (.string nm) es 0 = some (some (q, I i, b)) | none => findAV (.string nm) es 0 = some none
theorem str_eq (a b : ByteArray) : (a == b) = (a.toList == b.toList) := by
  rw [ByteArray.toList_eq, ByteArray.toList_eq]
  cases a with | mk x =>
  cases b with | mk y =>
  have h1 : ((⟨x⟩ : ByteArray) == ⟨y⟩) = (x == y) := rfl
  rw [h1, Bool.eq_iff_iff, beq_iff_eq, beq_iff_eq]
  exact Array.toList_inj.symm

/-- How a filler stands. -/
structure FS (l : List api_Data) (hv : List Bool) (q mm bs : Nat) (H : Mem) (n : Nat) : Prop where
  hq : H q = some (.cells [.ssl (encs c32 l) l.length false, .omap mm, .osl bs 0 l.length (some l.length)] 64)
  hm : ∃ es c, H mm = some (.map es c) ∧ MapOk es (atN l)
  hb : H bs = some (.cells (encs c4 hv) 4)
  len : hv.length = l.length
  lt : q < n ∧ mm < n ∧ bs < n
theorem FS.calm {l : List api_Data} {hv : List Bool} {q mm bs : Nat} {H H' : Mem} {n n' : Nat} (s : FS l hv q mm bs H n) (c : Calm H n H' n') : FS l hv q mm bs H' n' := by
  obtain ⟨a, ⟨es, k, b1, b2⟩, d, e, f1, f2, f3⟩ := s
  exact ⟨by rw [c.2 q f1, a], ⟨es, k, by rw [c.2 mm f2, b1], b2⟩, by rw [c.2 bs f3, d], e, by have := c.1; omega⟩

theorem fills_scalar {l : List api_Data} {S : Nat → Bool} {t : api_Type} (h : t.Kind = 0 ∨ t.Kind = 1) : fillsT l S t = true := by
  rw [fillsT_eq]; rcases h with h | h <;> simp [h]
theorem atN_lt {l : List api_Data} {nm : ByteArray} {i : Nat} (h : atN l nm = some i) : i < l.length := by
  unfold atN at h; rw [List.findIdx?_eq_some_iff_getElem] at h; exact h.1

mutual
def smT : api_Type → Bool
  | ⟨_, _, ps⟩ => decide (ps.length ≤ maxLen) && smTs ps
def smTs : List api_Type → Bool
  | [] => true
  | t :: ts => smT t && smTs ts
end
theorem smTs_mem : ∀ {ts : List api_Type}, smTs ts = true → ∀ t ∈ ts, smT t = true
  | [], _, t, h => by cases h
  | x :: xs, h, t, ht => by
    rw [smTs, Bool.and_eq_true] at h
    rcases List.mem_cons.1 ht with rfl | ht
    · exact h.1
    · exact smTs_mem h.2 t ht


/-- A field of a block that holds one thing. -/
theorem clos38 {l : List api_Data} {hv : List Bool} {q mm bs b : Nat} (x : api_Type) {H : Mem} {n : Nat} (s : FS l hv q mm bs H n) (hb : H b = some (.cells [.own q 0] 61)) (lb : b < n)
    (ih : ∀ {H : Mem} {n : Nat}, FS l hv q mm bs H n → RunQ Try.prog T.T 39 [.own q 0, .agg (c40 x)] H n (fun r H' n' => r = B (fillsT l (ofL hv) x) ∧ Calm H n H' n')) :
    RunQ Try.prog T.T 38 [.agg (c40 x), .own b 0] H n (fun r H' n' => r = B (!fillsT l (ofL hv) x) ∧ Calm H n H' n') := by
  have r40 : freeL (c40 x) = true := fr40 x
  refine RunQ.ev 9 Try.func38 rfl rfl rfl rfl rfl fun C1 hr1 hn1 => ?_
  obtain ⟨Z, hZ⟩ : ∃ Z, Z = upd H n (some (Blk.cells [.sc (.int .i64 x.Kind), .sc (.string x.Name), .ssl (encs c40 x.Parts) x.Parts.length false] 40)) := ⟨_, rfl⟩
  have cZ : Calm H n Z (n + 1) := ⟨by omega, fun j hj => by rw [hZ, upd_ne _ _ (by omega)]⟩
  have z1 : Z b = some (.cells [.own q 0] 61) := by rw [cZ.2 b lb, hb]
  have zn : Z n = some (.cells [.sc (.int .i64 x.Kind), .sc (.string x.Name), .ssl (encs c40 x.Parts) x.Parts.length false] 40) := by rw [hZ, upd_same]
  have hx : c40 x = [.sc (.int .i64 x.Kind), .sc (.string x.Name), .ssl (encs c40 x.Parts) x.Parts.length false] := by rw [u40]; rfl
  have ih2 := ih (s.calm cZ)
  rw [hx] at ih2 ⊢
  simp [← hZ, z1, zn, partOf]
  iterate 5 (try (refine evS_sound (f := 3) ?_; simp [← hZ, z1, zn, partOf]))
  refine Stk.callS 4 ih2 rfl rfl rfl (by simp) ?_
  rintro r H2 n2 ⟨rfl, hc⟩
  simp
  iterate 3 (try (refine evS_sound (f := 3) ?_; simp))
  exact hr1 _ _ _ (B (!fillsT l (ofL hv) x)) (by simp) ⟨rfl, cZ.trans hc⟩

theorem allQ {l : List api_Data} {hv : List Bool} {q mm bs : Nat} (ts : List api_Type) (hl : ts.length ≤ maxLen)
    (ih : ∀ t ∈ ts, ∀ {H : Mem} {n : Nat}, FS l hv q mm bs H n → RunQ Try.prog T.T 39 [.own q 0, .agg (c40 t)] H n (fun r H' n' => r = B (fillsT l (ofL hv) t) ∧ Calm H n H' n'))
    {H : Mem} {n : Nat} (s : FS l hv q mm bs H n) : RunQ Try.prog T.T 29 [.own q 0, .ssl (encs c40 ts) ts.length false] H n (fun r H' n' => r = B (fillsAll l (ofL hv) ts) ∧ Calm H n H' n') := by
  refine RunQ.ev 9 Try.func29 rfl rfl rfl rfl rfl fun C hr hn => ?_
  obtain ⟨Y, hY⟩ : ∃ Y, Y = upd H n (some (Blk.cells [.own q 0] 61)) := ⟨_, rfl⟩
  have cY : Calm H n Y (n + 1) := ⟨by omega, fun j hj => by rw [hY, upd_ne _ _ (by omega)]⟩
  have yn : Y n = some (.cells [.own q 0] 61) := by rw [hY, upd_same]
  have hc := containsQ30 (H := Y) (n := n + 1) 38 [] [.own n 0] ts (fun t => !fillsT l (ofL hv) t) hl fun x hx H1 n1 c1 => by
    have := clos38 (b := n) x ((s.calm cY).calm c1) (by rw [c1.2 n (by omega), yn]) (by have := c1.1; omega) (ih x hx)
    simpa using this
  simp [← hY]
  iterate 3 (try (refine evS_sound (f := 3) ?_; simp [← hY]))
  refine Stk.callS 4 hc rfl rfl rfl (by simp) ?_
  rintro r H2 n2 ⟨rfl, hc2⟩
  simp
  iterate 3 (try (refine evS_sound (f := 3) ?_; simp))
  refine hr _ _ _ (B (fillsAll l (ofL hv) ts)) (by simp [fillsAll_eq, List.not_any_eq_all_not]) ⟨rfl, cY.trans hc2⟩

theorem fillsQ {l : List api_Data} {hv : List Bool} {q mm bs : Nat} : ∀ (t : api_Type), smT t = true → ∀ {H : Mem} {n : Nat}, FS l hv q mm bs H n →
    RunQ Try.prog T.T 39 [.own q 0, .agg (c40 t)] H n (fun r H' n' => r = B (fillsT l (ofL hv) t) ∧ Calm H n H' n')
  | ⟨k, nm, ps⟩, hw, H, n, s => by
    rw [smT, Bool.and_eq_true, decide_eq_true_eq] at hw
    have ih := fun t ht {H : Mem} {n : Nat} => fillsQ (l := l) (hv := hv) (q := q) (mm := mm) (bs := bs) t (smTs_mem hw.2 t ht) (H := H) (n := n)
    obtain ⟨Z, hZ⟩ : ∃ Z, Z = upd H n (some (Blk.cells [.sc (.int .i64 k), .sc (.string nm), .ssl (encs c40 ps) ps.length false] 40)) := ⟨_, rfl⟩
    have cZ : Calm H n Z (n + 1) := ⟨by omega, fun j hj => by rw [hZ, upd_ne _ _ (by omega)]⟩
    have zn : Z n = some (.cells [.sc (.int .i64 k), .sc (.string nm), .ssl (encs c40 ps) ps.length false] 40) := by rw [hZ, upd_same]
    have sZ := s.calm cZ
    have ha := allQ (l := l) (hv := hv) ps hw.1 ih sZ
    obtain ⟨zq, ⟨es, c, zm, hm⟩, zb, hlen, l1, l2, l3⟩ := sZ
    have hx : c40 ⟨k, nm, ps⟩ = [.sc (.int .i64 k), .sc (.string nm), .ssl (encs c40 ps) ps.length false] := by rw [u40]; rfl
    have hf := fillsT_eq l (ofL hv) ⟨k, nm, ps⟩
    simp only at hf
    rw [hx, hf]
    refine RunQ.ev 9 Try.func39 rfl rfl rfl rfl rfl fun C hr hn => ?_
    simp [← hZ, zn, partOf]
    by_cases k0 : k = 0
    · iterate 6 (try (refine evS_sound (f := 3) ?_; simp [← hZ, zn, partOf, k0]))
      exact hr _ _ _ (B true) (by simp) ⟨by simp [k0], cZ⟩
    · by_cases k1 : k = 1
      · iterate 8 (try (refine evS_sound (f := 3) ?_; simp [← hZ, zn, partOf, k0, k1]))
        exact hr _ _ _ (B true) (by simp) ⟨by simp [k0, k1], cZ⟩
      · by_cases k2 : k = 2
        · iterate 8 (try (refine evS_sound (f := 3) ?_; simp [← hZ, zn, partOf, k0, k1, k2]))
          refine Stk.regionD 9 [.rd [], .rd [], .rd [], .rd [q], .rd [], .rd [n], .rd [mm], .rd [], .rd [], .rd [], .rd [], .rd []] none (by kernel_rfl) (by rfl) rfl (by simp [below]) rfl ?_
          have hmn := hm nm
          have hmk : mapK T.T 62 = some (.str, 3) := rfl
          have hmo : mapOf Z (.omap mm) = some es := by simp [mapOf, zm]
          have hko : keyOk .str (.string nm) = true := rfl
          have hz3 : zeroAV T.T 3 = some (.sc (.int .i64 0)) := rfl
          cases ha : atN l nm with
          | none =>
            rw [ha] at hmn
            simp only at hmn
            simp [zq, zm, zn, zb, partOf, hmk, hmo, hko, hz3, hmn]
            iterate 14 (try (refine evS_sound (f := 3) ?_; simp [zq, zm, zn, zb, partOf, hmn, hmk, hmo, hko, hz3]))
            exact hr _ _ _ (B false) (by simp) ⟨by simp [k2, hasN, ha], cZ⟩
          | some i =>
            rw [ha] at hmn
            obtain ⟨p, b, hmn⟩ := hmn
            have hil := atN_lt ha
            have hib : partOf T.T 4 (encs c4 hv) i = some (B (hv.getD i false)) := by
              have := part_one (T := T.T) (f := fun x => B x) T.t4 rfl hv i (by omega)
              rw [partOf_drop T.t4 (by decide)] at this
              rw [this, List.getD_eq_getElem?_getD, List.getElem?_eq_getElem (by omega)]
              rfl
            have hib2 : (encs c4 hv)[i]? = some (B (hv.getD i false)) := by simpa [partOf] using hib
            simp [zq, zm, zn, zb, partOf, hmk, hmo, hko, hz3, hmn, hil, hib2]
            iterate 12 (try (refine evS_sound (f := 3) ?_; simp [zq, zm, zn, zb, partOf, hmn, hmk, hmo, hko, hz3, hil, hib2]))
            exact hr _ _ _ (B (hv.getD i false)) (by simp) ⟨by simp [k2, hasN, ha, ofL], cZ⟩
        · iterate 12 (try (refine evS_sound (f := 3) ?_; simp [← hZ, zn, partOf, k0, k1, k2]))
          refine Stk.callS 4 ha rfl rfl rfl (by simp) ?_
          rintro r H2 n2 ⟨rfl, hc2⟩
          simp
          iterate 3 (try (refine evS_sound (f := 3) ?_; simp))
          exact hr _ _ _ (B (fillsAll l (ofL hv) ps)) (by simp) ⟨by simp [k0, k1, k2], cZ.trans hc2⟩
termination_by t => t
decreasing_by
  have := List.sizeOf_lt_of_mem ht
  simp only [api_Type.mk.sizeOf_spec]
  omega
end Go.Proofs.Ytappiofmkoelnaa.M
