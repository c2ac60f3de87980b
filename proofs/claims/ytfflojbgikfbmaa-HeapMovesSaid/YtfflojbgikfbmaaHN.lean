/-
  The statement HeapMoves: its first loop.
-/
import Derived.Test.YtfflojbgikfbmaaHM
namespace Go.Proofs.Ytfflojbgikfbmaa.Hea
open Go.Proofs.YtfflojbgikfbmaaW.Ah
open Go.Proofs.Ytfflojbgikfbmaa.Sta (U Er eU wrap_nsub wrap_pred load_u)
set_option maxRecDepth 4000
set_option linter.unusedVariables false
set_option linter.unusedSimpArgs false
attribute [local simp] T.t3 T.t4 T.t5 T.t26 T.t34 T.t39 T.t40 T.t62 T.t63 T.t70 T.t93 T.t144 Op.maxDepth List.range List.range.loop
attribute [-simp] appendAV cellsOf cellOk partOk
attribute [local simp] cellsOf_sc cellOk_sc partOk_sc cellsOf_own cellOk_own partOk_own cellsOf_osl cellOk_osl partOk_osl cellsOf_sh cellOk_sh partOk_sh cellsOf_ssl cellOk_ssl partOk_ssl cellsOf_esl cellOk_esl partOk_esl cellsOf_fn cellOk_fn partOk_fn cellsOf_omap cellOk_omap partOk_omap cellsOf_agg partOk_agg cellsOf_slv cellOk_slv partOk_slv

noncomputable def body9 : Code := Try.f9.body.getD .skip

/-- The words, and their heads, that were told so far. -/
structure Told (H : Mem) (n p i : Nat) (h : Hp) (ia ib : Option Nat) (ws : List Int) (xs : List (Int × Int × Int)) : Prop where
  oa : Own H 40 eU ia ws
  ob : Own H 34 eH ib xs
  len : ws.length = xs.length
  la : ∀ j, ia = some j → j < n ∧ j ≠ p ∧ j ≠ i
  lb : ∀ j, ib = some j → j < n ∧ j ≠ p ∧ j ≠ i
  ab : ∀ j, ia = some j → ib = some j → False
  recs : ∀ (k : Nat) (h1 : k < ws.length) (h2 : k < xs.length), RecOk h ws[k] xs[k]

theorem Told.far {H H' : Mem} {n n' p i : Nat} {h : Hp} {ia ib : Option Nat} {ws : List Int} {xs : List (Int × Int × Int)} (t : Told H n p i h ia ib ws xs) (hn : n ≤ n') (hk : ∀ j, j < n → j ≠ p → j ≠ i → H' j = H j) : Told H' n' p i h ia ib ws xs :=
  ⟨t.oa.mono fun j hj => hk j (t.la j hj).1 (t.la j hj).2.1 (t.la j hj).2.2, t.ob.mono fun j hj => hk j (t.lb j hj).1 (t.lb j hj).2.1 (t.lb j hj).2.2, t.len, fun j hj => ⟨by have := (t.la j hj).1; omega, (t.la j hj).2⟩, fun j hj => ⟨by have := (t.lb j hj).1; omega, (t.lb j hj).2⟩, t.ab, t.recs⟩

theorem mL (xs : List (Int × Int × Int)) (u : Int) (hx : xs.length ≤ 40) (C : Cont) (K : ∀ t H n p i c h ia ib ws ys, t 1 = .sc (.int .u8 u) → t 5 = .own p 0 → t 7 = slv ia ws.length → t 8 = slv ib ys.length → St H n p i c h → h.half = 400 → h.up = false → Told H n p i h ia ib ws ys → ys.length ≤ 40 → Stk Try.prog T.T 261 (codes ((seqs body9).drop 10)) t H n C)
    (p i : Nat) (c : Option Nat) (h : Hp) (t : Nat → AV) (H : Mem) (n : Nat) (t1 : t 1 = .sc (.int .u8 u)) (t5 : t 5 = .own p 0) (t7 : t 7 = .sc (.slice none 0 0)) (t8 : t 8 = .sc (.slice none 0 0)) (t49 : t 49 = .ssl (encs eH xs) xs.length false) (t50 : t 50 = I xs.length) (t51 : t 51 = I 0) (st : St H n p i c h) (hh : h.half = 400) (hu : h.up = false) (h1 : 1 ≤ h.next) :
    Stk Try.prog T.T 261 (codes ((seqs body9).drop 9)) t H n C := by
  refine Stk.cut (l' := (seqs body9).drop 10) [_] rfl fun J hJ => ?_
  refine evS_sound (f := 999) ?_
  simp [codes]
  refine Stk.loop 999 (fun μ t H2 n2 => ∃ (q : Nat) (h : Hp) (ia ib : Option Nat) (ws : List Int) (ys : List (Int × Int × Int)), q ≤ xs.length ∧ μ = xs.length - q ∧ t 1 = .sc (.int .u8 u) ∧ t 5 = .own p 0 ∧ t 7 = slv ia ws.length ∧ t 8 = slv ib ys.length ∧ t 49 = .ssl (encs eH xs) xs.length false ∧ t 50 = I xs.length ∧ t 51 = I q ∧ St H2 n2 p i c h ∧ h.half = 400 ∧ h.up = false ∧ 1 ≤ h.next ∧ Told H2 n2 p i h ia ib ws ys ∧ ys.length ≤ q) xs.length ?_ ?_
  · exact ⟨0, h, none, none, [], [], Nat.zero_le _, rfl, t1, t5, t7, t8, t49, t50, t51, st, hh, hu, h1, ⟨rfl, rfl, rfl, fun j e => (by cases e), fun j e => (by cases e), fun j e => (by cases e), fun k h1 => absurd h1 (Nat.not_lt_zero _)⟩, Nat.zero_le _⟩
  clear st t1 t5 t7 t8 t49 t50 t51 hh hu h1
  rintro J2 hJ2 μ t H2 n2 ⟨q, h, ia, ib, ws, ys, hq, rfl, t1, t5, t7, t8, t49, t50, t51, st, hh, hu, hnx1, td, hyq⟩
  simp [t49, t50, t51]
  refine ⟨fun hlt => ?_, fun hge => ?_⟩
  · have hld : partOf T.T 34 (List.drop (q * 3) (encs eH xs)) 0 = some (.agg (eH xs[q])) := part_agg (e := eH) (z := 3) T.t34 rfl rfl xs q hlt
    obtain ⟨⟨k, g, z⟩, hx0⟩ : ∃ x, x = xs[q] := ⟨_, rfl⟩
    rw [← hx0] at hld
    simp [t49, t50, t51, hlt, hld]
    refine Stk.callF 999 (sizeF k g z) rfl rfl rfl (by simp) rfl rfl ?_
    obtain ⟨sz, hsz⟩ : ∃ sz, sz = size k g z := ⟨_, rfl⟩
    rw [← hsz]
    have wq := wrap_succ q (by omega)
    have hlt' : q + 1 ≤ xs.length := hlt
    obtain ⟨lb, hlb⟩ : ∃ lb, lb = sz - 2 := ⟨_, rfl⟩
    have hsz8 : sz ≤ 10 := by
      rw [hsz]; unfold size; split
      · rename_i hc; have := body_le hc; omega
      · omega
    have hmax : IntKind.i64.wrap ((if (sz : Int) < 2 then 2 else (sz : Int)) - 2) = (lb : Int) := by
      split
      · rw [wrap64_id (by omega) (by omega)]; omega
      · rw [wrap64_id (by omega) (by omega)]; omega
    have hr1 : (lb : Int) * 8 ≤ (roomMax : Nat) := by unfold roomMax; omega
    have hr2 : lb ≤ roomMax := by unfold roomMax; omega
    obtain ⟨M0, hM0⟩ : ∃ M0 : Mem, M0 = upd (upd H2 n2 (some (.cells [.sc (.int .i64 0), .sc (.int .i64 0), .sc (.int .i64 0)] 34))) n2 (some (.cells (eH (k, g, z)) 34)) := ⟨_, rfl⟩
    obtain ⟨M, hM⟩ : ∃ M : Mem, M = upd M0 (n2 + 1) (some (.cells (List.replicate lb (.sc (.int .u64 0))) 40)) := ⟨_, rfl⟩
    have hMj : ∀ j, j < n2 → M j = H2 j := fun j hj => by rw [hM, upd_ne _ _ (by omega), hM0, upd_ne _ _ (by omega), upd_ne _ _ (by omega)]
    have hlp := st.lp
    have hli := st.li
    have hM0n : M0 n2 = some (.cells (eH (k, g, z)) 34) := by rw [hM0, upd_same]
    have hMn : M n2 = some (.cells (eH (k, g, z)) 34) := by rw [hM, upd_ne _ _ (by omega), hM0n]
    simp only [← hM0]
    simp [hmax, hr1, hr2, hM0n, partOf]
    rw [← hM]
    refine Stk.loop 999 (fun μ t H3 n3 => n3 = n2 + 2 ∧ ∃ (v : Nat) (zs : List Int), v ≤ lb ∧ μ = lb - v ∧ zs.length = lb ∧ t 1 = .sc (.int .u8 u) ∧ t 5 = .own p 0 ∧ t 7 = slv ia ws.length ∧ t 8 = slv ib ys.length ∧ t 9 = I q ∧ t 10 = .own n2 0 ∧ t 11 = .osl (n2 + 1) 0 lb (some lb) ∧ t 49 = .ssl (encs eH xs) xs.length false ∧ t 50 = I xs.length ∧ t 51 = I q ∧ t 62 = I lb ∧ t 63 = I v ∧ H3 (n2 + 1) = some (.cells (encs eU zs) 40) ∧ ∀ j, j ≠ n2 + 1 → H3 j = M j) lb ?_ ?_
    · exact ⟨rfl, 0, List.replicate lb 0, Nat.zero_le _, rfl, by simp, by simp [t1], by simp [t5], by simp [t7], by simp [t8], by simp [t51], by simp, by simp, by simp [t49], by simp [t50], by simp [t51], by simp, by simp, by rw [hM, upd_same, encs_rep], fun _ _ => rfl⟩
    clear t1 t5 t7 t8 t49 t50 t51
    rintro J3 hJ3 μ t H3 n3 ⟨rfl, v, zs, hvb, rfl, hzl, t1, t5, t7, t8, t9, t10, t11, t49, t50, t51, t62, t63, hz, hk3⟩
    simp [t62, t63]
    refine ⟨fun hvl => ?_, fun hvg => ?_⟩
    · have wv := wrap_succ v (by omega)
      have wqv : IntKind.i64.wrap ((q : Int) + v) = (q : Int) + v := wrap64_id (by omega) (by omega)
      simp [t9, t11, t63, wqv]
      refine Stk.callF 999 (imm ((q : Int) + v)) rfl rfl rfl (by simp) rfl rfl ?_
      have hsc := set_cells (l := zs) (k := v) (by omega) (immV ((q : Int) + v))
      have hvz : v + 1 ≤ zs.length := by omega
      have hvl' : v + 1 ≤ lb := hvl
      simp [t63, wv, hvl, hvl', hz, hzl, hvz, hsc]
      exact ⟨lb - (v + 1), by omega, hJ3 _ _ _ _ ⟨rfl, v + 1, zs.set v (immV ((q : Int) + v)), hvl', rfl, by simp [hzl], by simp [t1], by simp [t5], by simp [t7], by simp [t8], by simp [t9], by simp [t10], by simp [t11], by simp [t49], by simp [t50], by simp [t51], by simp [t62], by simp, by simp, fun j hj => by simp [hj, hk3 j hj]⟩⟩
    · have h3n : H3 n2 = some (.cells (eH (k, g, z)) 34) := by rw [hk3 n2 (by omega), hMn]
      have h3j : ∀ j, j < n2 → H3 j = H2 j := fun j hj => by rw [hk3 j (by omega), hMj j hj]
      have st3 := st.far (n' := n2 + 2) (by omega) h3j
      have hput := put st3 k g z (j := n2 + 1) (cj := some lb) (l := zs) (zs := []) (by rw [hz, List.append_nil]) (by omega) (by omega) (by omega)
      rw [hzl] at hput
      simp only [← hsz] at hput
      have hcond2 : Can k g z ∧ lb = body k z ∧ sz ≤ h.room ↔ Can k g z ∧ sz ≤ h.room := ⟨fun h => ⟨h.1, h.2.2⟩, fun h => ⟨h.1, by rw [hlb, hsz, size_can h.1]; omega, h.2⟩⟩
      simp only [hcond2] at hput
      simp [t5, t10, t11, h3n, partOf]
      refine Stk.callS 8 hput rfl rfl rfl (by simp) ?_
      intro r H4 n4 hz4
      by_cases hc : Can k g z ∧ sz ≤ h.room
      · rw [if_pos hc] at hz4
        obtain ⟨rfl, st4⟩ := hz4
        obtain ⟨h4, hh4⟩ : ∃ h4 : Hp, h4 = ⟨putL h.ws h.next (hv k g z :: ((2 * h.next : Nat) : Int) :: zs), h.half, h.up, h.next + sz, h.on, h.scan⟩ := ⟨_, rfl⟩
        rw [← hh4] at st4
        obtain ⟨w, hw⟩ : ∃ w : Int, w = ((2 * h.next : Nat) : Int) := ⟨_, rfl⟩
        rw [← hw]
        have l4 := st4.le
        have td4 := td.far (H' := H4) (n' := n4) (by omega) (fun j hj hjp hji => by rw [st4.keep j (by omega) hjp hji, h3j j hj])
        obtain ⟨i1, H5, n5, e1, o1, le1, f1, f2, kk1⟩ := Sta.more td4.oa (fun j hj => (td4.la j hj).1) (by have := td.len; omega) w
        have ob5 : Own H5 34 eH ib ys := td4.ob.mono fun j hj => kk1 j (td4.lb j hj).1 (fun e => td4.ab j e hj)
        obtain ⟨i2, H6, n6, e2, o2, le2, g1, g2, kk2⟩ := moreH (n := n5) ob5 (fun j hj => by have := (td4.lb j hj).1; omega) (by omega) (k, g, z)
        have h4x : H4 n2 = some (.cells (eH (k, g, z)) 34) := by rw [st4.keep n2 (by omega) (by omega) (by omega), h3n]
        have h5x : H5 n2 = some (.cells (eH (k, g, z)) 34) := by rw [kk1 n2 (by omega) (fun e => by have := (td.la _ e).1; omega), h4x]
        have hn24 : n2 < n4 := by omega
        have hsa : n2 ∉ ia.toList := fun hm => by
          have := (td.la n2 (by simpa using hm)).1; omega
        have hsb : n2 ∉ ib.toList := fun hm => by
          have := (td.lb n2 (by simpa using hm)).1; omega
        simp
        (refine evS_sound (f := 6) ?_; simp)
        refine evS_sound (f := 2) ?_
        simp
        refine Stk.regionD 999 [.rd [], .rd [], .mem [] n4, .mem ia.toList n4, .rd [], .rd [n2], .mem [] n4, .mem ib.toList n4, .rd [], .rd []] (some 6) (by kernel_rfl) (drawOk2_rd [.rd [], .rd [], .mem [] n4, .mem ia.toList n4, .rd [], .rd [], .mem [] n4, .mem ib.toList n4, .rd [], .rd []] 5 [n2] (by
          intro c hc S b hcS r hr
          subst hcS
          have hr' : r = n2 := by simpa using hr
          subst hr'
          have hc' : S = [] ∨ S = ia.toList ∨ S = ib.toList := by
            simp only [List.mem_cons, List.not_mem_nil, or_false, reduceCtorEq, false_or, Cls.mem.injEq] at hc
            rcases hc with h | h | h | h
            · exact .inl h.1
            · exact .inr (.inl h.1)
            · exact .inl h.1
            · exact .inr (.inr h.1)
          rcases hc' with rfl | rfl | rfl
          · simp
          · exact hsa
          · exact hsb) rfl (by rfl)) (by rfl) (by simp [below, hn24]) rfl ?_
        dsimp only [eH] at e2
        simp [t7, t8, t10, e1, h5x, partOf, e2, t51, wq]
        have hok := st.ok
        have hi12 : ¬ i1 = i2 := fun e => by
          rcases f1 with f1 | f1
          · rcases g1 with g1 | g1
            · exact td.ab i1 f1 (by rw [e]; exact g1)
            · have := (td4.la _ f1).1; omega
          · rcases g1 with g1 | g1
            · have := (td4.lb _ g1).1; omega
            · omega
        have hkeep : ∀ j, j < n4 → ia ≠ some j → ib ≠ some j → H6 j = H4 j := fun j hj ha hb => by rw [kk2 j (by omega) hb, kk1 j hj ha]
        have st6 : St H6 n6 p i c h4 := by
          have s4 := st4.st
          exact ⟨by rw [hkeep p (by omega) (fun e => (td.la _ e).2.1 rfl) (fun e => (td.lb _ e).2.1 rfl)]; exact s4.hp, by rw [hkeep i (by omega) (fun e => (td.la _ e).2.2 rfl) (fun e => (td.lb _ e).2.2 rfl)]; exact s4.hw, by omega, by omega, s4.ne, s4.hc, s4.ok⟩
        refine ⟨fun j hj e => absurd e (by omega), fun j hj hja => by rw [if_neg (by omega)]; exact kk1 j hj hja, fun j hj e => absurd e (by omega), fun j hj hjb => by rw [if_neg (by omega)]; exact kk2 j (by omega) hjb, xs.length - (q + 1), by omega, hJ2 _ _ _ _ ⟨q + 1, h4, some i1, some i2, ws ++ [w], ys ++ [(k, g, z)], hlt', rfl, by simp [t1], by simp [t5], by simp, by simp, by simp [t49], by simp [t50], by simp, st6, by rw [hh4]; exact hh, by rw [hh4]; exact hu, by rw [hh4]; show 1 ≤ h.next + sz; omega, ?_, by simp; omega⟩⟩
        refine ⟨o1.mono fun j hj => ?_, o2, by simp [td.len], fun j hj => ?_, fun j hj => ?_, fun j hj hj' => ?_, fun m h1 h2 => ?_⟩
        · cases hj
          refine kk2 i1 f2 (fun e => ?_)
          rcases f1 with f1 | f1
          · exact td.ab _ f1 e
          · have := (td4.lb _ e).1; omega
        · cases hj
          refine ⟨by omega, ?_⟩
          rcases f1 with f1 | f1
          · exact (td.la _ f1).2
          · omega
        · cases hj
          refine ⟨g2, ?_⟩
          rcases g1 with g1 | g1
          · exact (td.lb _ g1).2
          · omega
        · cases hj; cases hj'; exact hi12 rfl
        · by_cases hm : m < ws.length
          · have hm2 : m < ys.length := by rw [← td.len]; exact hm
            rw [List.getElem_append_left hm, List.getElem_append_left hm2, hh4]
            exact (td.recs m hm hm2).lay hok _ _
          · have e1 : m = ws.length := by simp at h1; omega
            have e2 : m = ys.length := by rw [← td.len]; exact e1
            have e3 : (ws ++ [w])[m] = w := by simp [e1]
            have e4 : (ys ++ [(k, g, z)])[m] = (k, g, z) := by simp [e2]
            rw [e3, e4, hh4, hw, hsz]
            exact RecOk.new hok (k, g, z) hc.1 zs (by rw [hzl, hlb, hsz]) (by rw [← hsz]; exact hc.2) hnx1
      · rw [if_neg hc] at hz4
        obtain ⟨rfl, hc4⟩ := hz4
        have hst4 := st3.far hc4.1 hc4.2
        obtain ⟨e, he⟩ : ∃ e : Int, e = if Can k g z ∧ lb = body k z then 21 else 19 := ⟨_, rfl⟩
        have he0 : e ≠ 0 := by rw [he]; split <;> omega
        have heb : (e == 0) = false := by simp [he0]
        simp only [← he]
        have l4 := hc4.1
        simp [heb]
        refine evS_sound (f := 99) ?_
        simp [heb, t51, wq]
        exact ⟨xs.length - (q + 1), by omega, hJ2 _ _ _ _ ⟨q + 1, h, ia, ib, ws, ys, hlt', rfl, by simp [t1], by simp [t5], by simp [t7], by simp [t8], by simp [t49], by simp [t50], by simp, hst4, hh, hu, hnx1, td.far (by omega) (fun j hj _ _ => by rw [hc4.2 j (by omega), h3j j hj]), by omega⟩⟩
  · have : q = xs.length := by omega
    exact hJ _ _ _ (K _ _ _ p i c h ia ib ws ys t1 t5 t7 t8 st hh hu td (by omega))
end Go.Proofs.Ytfflojbgikfbmaa.Hea
