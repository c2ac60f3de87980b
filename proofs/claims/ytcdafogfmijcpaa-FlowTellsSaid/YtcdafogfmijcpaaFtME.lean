/-
  Is what an instruction names there? By the document.
-/
import Derived.Test.YtcdafogfmijcpaaFtMD
import Derived.Test.YtcdafogfmijcpaaFtW3
namespace Go.Proofs.Ytcdafogfmijcpaa.Flo
open Go.Proofs.YtcdafogfmijcpaaW.Ah
open M (api_Code api_Func api_Inst c3 c4 c9 c22 c26 c29 c36 c41 c42 c44 c47 c51 StF comeP joinR LkS comeL rowsT row0 fitI rowI iC takesP putsP goesP nextP thereP namesP)
set_option maxRecDepth 8000
set_option linter.unusedVariables false
set_option linter.unusedSimpArgs false
set_option maxHeartbeats 1000000
attribute [local simp] T.t2 T.t3 T.t4 T.t9 T.t22 T.t23 T.t24 T.t26 T.t29 T.t36 T.t39 T.t41 T.t42 T.t44 T.t47 T.t73 T.t75 Op.maxDepth List.range List.range.loop
attribute [-simp] appendAV

theorem there_ok {c : api_Code} {f : api_Func} {p A K m : Nat} {ok more : Bool} {H : Mem} {n : Nat} (hp : H p = some (.cells (lkC c f A K m ok more) 75)) (hpn : p < n) (i : api_Inst) (hi : fitI i = true) (left : Nat) :
    RunQ Try.prog T.T 53 [.own p 0, .agg (iC i), I left] H n (fun r H' n' => r = B (thereP c i left) ∧ n ≤ n' ∧ ∀ j, j < n → H' j = H j) := by
  obtain ⟨ho0, ho16, hrng⟩ := fit_rng i hi
  have hnames := M.ok_R21_names 0 i (namesP i) (M.names21_M 0 i)
  rw [M.c44_eq] at hnames
  refine RunQ.ev 0 Try.func53 rfl rfl rfl rfl rfl fun C hr hn => ?_
  have hpn2 : ¬ p = n := by omega
  have fin : ∀ (t : Nat → AV) (b : Bool), t 6 = B b → b = thereP c i left → C .ret t (upd H n (some (.cells (iC i) 44))) (n + 1) := fun t b h6 hb =>
    hr _ _ _ (B b) (by simp [h6]) ⟨by rw [hb], by omega, fun j hj => upd_ne _ _ (by omega)⟩
  have hb : ∀ H' : Mem, H' = upd H n (some (.cells (iC i) 44)) → H' n = some (.cells (iC i) 44) ∧ H' p = some (.cells (lkC c f A K m ok more) 75) := fun H' e => by
    subst e; exact ⟨upd_same _ _ _, by rw [upd_ne _ _ hpn2, hp]⟩
  by_cases h1 : i.Op = 1
  · iterate 17 (try (refine evS_sound (f := 1) ?_; simp [h1, partOf]))
    iterate 2 (try (refine evS_sound (f := 1) ?_; simp [h1, partOf]))
    refine Stk.rgD [.rd [], .rd [n], .rd [], .rd [], .rd [], .rd [], .rd [p], .rd [], .rd [], .rd []] none (by kernel_rfl) (drawOk2_ren [n, p] (by simp; omega) 0 [.rd [], .rd [0], .rd [], .rd [], .rd [], .rd [], .rd [1], .rd [], .rd [], .rd []] rfl (by rfl)) rfl (by simp [below]) rfl ?_
    iterate 14 (try (refine evS_sound (f := 1) ?_; simp [partOf, hp, hpn2]))
    rw [← h1]
    exact fin _ (decide (i.A < (c.Texts.length : Int))) (by simp) (by unfold M.thereP; rw [if_pos h1])
  · have tail : ∀ (t : Nat → AV), t 4 = .own n 0 → t 2 = I left → True := fun _ _ _ => trivial
    by_cases h6 : i.Op = 6
    · have hA0 : 0 ≤ i.A := by rw [h6] at hrng; exact hrng.1
      obtain ⟨a, ha⟩ := Int.eq_ofNat_of_zero_le hA0
      have hnm : namesP i = -1 := by unfold M.namesP; rw [if_neg (by omega)]
      rw [hnm] at hnames
      have hlt1 : (-1 : Int) < left := by omega
      by_cases hlt : i.A < c.Funs.length
      · have hltn : a < c.Funs.length := by omega
        have hge : ¬ (c.Funs.length : Int) ≤ a := by omega
        have hlti : (a : Int) < c.Funs.length := by omega
        have hix : (encs c41 c.Funs)[a * 4 + 1]? = some (I (c.Funs[a]).Params) := by
          have h := cell_own (e := c41) (z := 4) c.Funs [] a 1 hltn (by omega)
          rw [List.append_nil] at h
          rw [h]; rfl
        have hth : thereP c i left = decide ((c.Funs[a]).Params = i.B) := by
          unfold M.thereP; rw [if_neg h1, if_pos h6]
          simp only [ha, hlti, Int.toNat_natCast, List.getD_eq_getElem?_getD, List.getElem?_eq_getElem hltn, Option.getD_some, decide_true, Bool.true_and]
        iterate 40 (try (refine evS_sound (f := 1) ?_; simp [h6, ha, partOf]))
        refine Stk.rgD [.rd [], .rd [n], .rd [], .rd [], .rd [], .rd [], .rd [p], .rd [], .rd [], .rd [], .rd [], .rd [], .rd [], .rd [], .rd [p], .rd [], .rd [n], .rd [], .rd [], .rd [], .rd [], .rd [n], .rd [], .rd []] none (by kernel_rfl) (drawOk2_ren [n, p] (by simp; omega) 0 [.rd [], .rd [0], .rd [], .rd [], .rd [], .rd [], .rd [1], .rd [], .rd [], .rd [], .rd [], .rd [], .rd [], .rd [], .rd [1], .rd [], .rd [0], .rd [], .rd [], .rd [], .rd [], .rd [0], .rd [], .rd []] rfl (by rfl)) rfl (by simp [below]) rfl ?_
        by_cases hpb : (c.Funs[a]).Params = i.B
        · iterate 45 (try (refine evS_sound (f := 1) ?_; simp [partOf, hp, hpn2, hge, hlti, hltn, ha, hix, hpb]))
          refine Stk.callF 1 (by rw [show iC i = [I i.Op, I i.A, I i.B, I i.C] from rfl, h6, ha] at hnames; exact hnames) rfl rfl rfl (by simp [h6, ha]) rfl rfl ?_
          iterate 8 (try (refine evS_sound (f := 1) ?_; simp [hlt1]))
          exact fin _ true (by simp) (by rw [hth, hpb]; simp)
        · iterate 45 (try (refine evS_sound (f := 1) ?_; simp [partOf, hp, hpn2, hge, hlti, hltn, ha, hix, hpb]))
          exact fin _ false (by simp) (by rw [hth]; simp [hpb])
      · have hth : thereP c i left = false := by
          unfold M.thereP; rw [if_neg h1, if_pos h6]; simp [hlt]
        have hge : (c.Funs.length : Int) ≤ a := by omega
        iterate 40 (try (refine evS_sound (f := 1) ?_; simp [h6, ha, partOf]))
        refine Stk.rgD [.rd [], .rd [n], .rd [], .rd [], .rd [], .rd [], .rd [p], .rd [], .rd [], .rd [], .rd [], .rd [], .rd [], .rd [], .rd [p], .rd [], .rd [n], .rd [], .rd [], .rd [], .rd [], .rd [n], .rd [], .rd []] none (by kernel_rfl) (drawOk2_ren [n, p] (by simp; omega) 0 [.rd [], .rd [0], .rd [], .rd [], .rd [], .rd [], .rd [1], .rd [], .rd [], .rd [], .rd [], .rd [], .rd [], .rd [], .rd [1], .rd [], .rd [0], .rd [], .rd [], .rd [], .rd [], .rd [0], .rd [], .rd []] rfl (by rfl)) rfl (by simp [below]) rfl ?_
        iterate 45 (try (refine evS_sound (f := 1) ?_; simp [partOf, hp, hpn2, hge, ha]))
        exact fin _ false (by simp) hth.symm
    · by_cases h11 : i.Op = 11
      · have hnm : namesP i = i.A := by unfold M.namesP; rw [if_pos (by omega)]
        rw [hnm] at hnames
        have hth : thereP c i left = (decide (i.B < c.Tables.length) && decide (i.A < (left : Int))) := by
          unfold M.thereP; rw [if_neg h1, if_neg h6, if_pos h11]
        iterate 40 (try (refine evS_sound (f := 1) ?_; simp [h11, partOf]))
        refine Stk.rgD [.rd [], .rd [n], .rd [], .rd [], .rd [], .rd [], .rd [p], .rd [], .rd []] none (by kernel_rfl) (drawOk2_ren [n, p] (by simp; omega) 0 [.rd [], .rd [0], .rd [], .rd [], .rd [], .rd [], .rd [1], .rd [], .rd []] rfl (by rfl)) rfl (by simp [below]) rfl ?_
        by_cases hge : (c.Tables.length : Int) ≤ i.B
        · iterate 30 (try (refine evS_sound (f := 1) ?_; simp [partOf, hp, hpn2, hge]))
          rw [← h11]
          exact fin _ false (by simp) (by rw [hth]; simp; omega)
        · iterate 30 (try (refine evS_sound (f := 1) ?_; simp [partOf, hp, hpn2, hge]))
          refine Stk.callF 1 (by rw [show iC i = [I i.Op, I i.A, I i.B, I i.C] from rfl, h11] at hnames; exact hnames) rfl rfl rfl (by simp [h11]) rfl rfl ?_
          iterate 8 (try (refine evS_sound (f := 1) ?_; simp))
          rw [← h11]
          exact fin _ (decide (i.A < (left : Int))) (by simp) (by rw [hth]; simp; omega)
      · have hth : thereP c i left = decide (namesP i < (left : Int)) := by
          unfold M.thereP M.namesP
          rw [if_neg h1, if_neg h6, if_neg h11]
          by_cases hx : i.Op = 2 ∨ i.Op = 4 ∨ i.Op = 12 ∨ i.Op = 13 ∨ i.Op = 14
          · rw [if_pos hx, if_pos (by omega)]
          · rw [if_neg hx, if_neg (by omega)]; simp; omega
        iterate 60 (try (refine evS_sound (f := 1) ?_; simp [h1, h6, h11, partOf]))
        refine Stk.callF 1 hnames rfl rfl rfl (by simp) rfl rfl ?_
        iterate 8 (try (refine evS_sound (f := 1) ?_; simp))
        exact fin _ (decide (namesP i < (left : Int))) (by simp) hth.symm
end Go.Proofs.Ytcdafogfmijcpaa.Flo
namespace Go.Proofs.Ytcdafogfmijcpaa.Flo
open Go.Proofs.YtcdafogfmijcpaaW.Ah
open M (api_Code api_Func api_Inst c3 c4 c9 c22 c26 c29 c36 c41 c42 c44 c47 c51 StF comeP joinR LkS comeL comesL rowsT row0 fitI rowI iC takesP putsP goesP nextP thereP namesP tgP)
set_option maxRecDepth 8000
set_option linter.unusedVariables false
set_option linter.unusedSimpArgs false
set_option maxHeartbeats 1000000
attribute [local simp] T.t2 T.t3 T.t4 T.t9 T.t22 T.t23 T.t24 T.t26 T.t29 T.t36 T.t39 T.t41 T.t42 T.t44 T.t47 T.t73 T.t75 Op.maxDepth List.range List.range.loop
attribute [-simp] appendAV

theorem comesL_app (S : Nat) (o : M.Row) : ∀ (l1 l2 : List Nat) (s : LkS), comesL S o (l1 ++ l2) s = comesL S o l2 (comesL S o l1 s)
  | [], _, _ => rfl
  | t :: l1, l2, s => by rw [List.cons_append, M.comesL, M.comesL, comesL_app S o l1 l2]

def base0 (c : api_Code) (i : api_Inst) : List Int := if i.Op = 11 then c.Tables.getD i.B.toNat [] else goesP i
theorem base0_filter (c : api_Code) (i : api_Inst) (hi : fitI i = true) : (base0 c i).filter okP = baseP c i := by
  unfold base0 baseP
  split
  · rfl
  · unfold M.goesP
    rw [if_pos hi]
    split
    · rename_i h
      have := to_nonneg i hi h
      rw [List.filter_cons, if_pos (by simp [okP]; exact this)]; rfl
    · rfl

noncomputable def body34 : Code := Try.f34.body.getD .skip

theorem tail34 {c : api_Code} {f : api_Func} {p A K : Nat} {role : Nat → Option Role} {H : Mem} {n : Nat} {s : LkS} (w : Lkr c f p A K role H n s) {S : Nat} (ok : Okc c f S) (i : api_Inst) (hi : fitI i = true) (q : Nat) (hq : q < 2 ^ 20) (hB : i.Op = 11 → i.B < c.Tables.length) {nb : Nat} (hnb : H nb = some (.cells (iC i) 44)) (hnr : role nb = none) (hnn : nb < n)
    {oo cc : Option Nat} {out : M.Row} (hO : OwnC H 4 1 c4 oo cc out) (hor : ∀ i, oo = some i → role i = none ∧ i < n) {t : Nat → AV} (t0 : t 0 = .own p 0) (t1 : t 1 = I q) (t4 : t 4 = .own nb 0) (t8 : t 8 = slc oo out.length cc) {C : Cont}
    (hn : ∀ t H' n', LRes c f p A K role H n H' n' (comesL S out ((tgP c i q).map Int.toNat) s) → C .normal t H' n') : Stk Try.prog T.T 119 (codes ((seqs body34).drop 11)) t H n C := by
  have hp := w.hp
  have hpn : p < n := w.lt p (by rw [w.rp]; simp)
  have hgoes := M.ok_R19_Goes 0 i _ (M.goes19_M 0 i hi)
  rw [M.c44_eq] at hgoes
  have hrng := fit_rng i hi
  have hpn2 : ¬ p = nb := fun e => by rw [← e, w.rp] at hnr; cases hnr
  obtain ⟨L, hL⟩ : ∃ L, base0 c i = L := ⟨_, rfl⟩
  have rest : ∀ t' : Nat → AV, t' 0 = .own p 0 → t' 1 = I q → t' 8 = slc oo out.length cc → t' 9 = .ssl (encs c3 L) L.length false → t' 10 = B (nextP i) → Stk Try.prog T.T 119 (codes ((seqs body34).drop 14)) t' H n C := by
    intro t' y0 y1 y8 y9 y10
    have hLl : L.length ≤ 2 ^ 20 := by
      rw [← hL]; unfold base0
      split
      · rename_i h11
        have : (c.Tables.getD i.B.toNat []).length ≤ 2 ^ 20 := by
          rw [List.getD_eq_getElem?_getD]
          cases hg : c.Tables[i.B.toNat]? with
          | none => simp
          | some x => exact (ok.tab x (List.mem_of_getElem? hg)).2
        exact this
      · unfold M.goesP
        rw [if_pos hi]
        split <;> simp
    have htg : (tgP c i q).map Int.toNat = ((L.filter okP).map Int.toNat) ++ (if nextP i = true then [q + 1] else []) := by
      rw [tgP_base, ← base0_filter c i hi, hL, List.map_append]
      congr 1
      split
      · simp
      · rfl
    refine Stk.cut (l' := []) [_, _, _, _] rfl fun J2 hJ2 => ?_
    have hn := fun (t : Nat → AV) (H' : Mem) (n' : Nat) h => hJ2 t H' n' (Stk.en (hn t H' n' h))
    simp only [codes, List.map, List.cons_append, List.nil_append]
    iterate 8 (try (refine evS_sound (f := 1) ?_; simp))
    refine Stk.loop 4 (fun μ t H' n' => ∃ (k : Nat) (role' : Nat → Option Role), k ≤ L.length ∧ μ = L.length - k ∧ t 0 = .own p 0 ∧ t 1 = I q ∧ t 8 = slc oo out.length cc ∧ t 9 = .ssl (encs c3 L) L.length false ∧ t 10 = B (nextP i) ∧ t 11 = I k ∧ n ≤ n' ∧ (∀ j, j < n → role j = none → H' j = H j) ∧ (∀ j, j < n → role' j = role j) ∧ Lkr c f p A K role' H' n' (comesL S out (((L.take k).filter okP).map Int.toNat) s)) L.length
      ⟨0, role, by omega, rfl, by simp [y0], by simp [y1], by simp [y8], by simp [y9], by simp [y10], by simp, Nat.le_refl _, fun _ _ _ => rfl, fun _ _ => rfl, w⟩ ?_
    rintro J hJ μ t2 H2 n2 ⟨k, role2, hk, rfl, z0, z1, z8, z9, z10, z11, hn2, hk2, hr2, w2⟩
    have hO2 : OwnC H2 4 1 c4 oo cc out := hO.mono fun j hj => hk2 j (hor j hj).2 (hor j hj).1
    have hor2 : ∀ j, oo = some j → role2 j = none ∧ j < n2 := fun j hj => ⟨by rw [hr2 j (hor j hj).2, (hor j hj).1], by have := (hor j hj).2; omega⟩
    by_cases hlt : k < L.length
    · have hlti : (k : Int) < L.length := by omega
      have wk := wrap_succ k (by omega)
      obtain ⟨x, hx⟩ : ∃ x, L[k] = x := ⟨_, rfl⟩
      have hix : partOf T.T 3 (List.drop k (encs c3 L)) 0 = some (I x) := by
        have hc := cell_own (e := c3) (z := 1) L [] k 0 hlt (by omega)
        rw [List.append_nil, hx] at hc
        simp only [partOf, T.t3]
        simpa [aggK] using hc
      have htk : L.take (k + 1) = L.take k ++ [x] := by rw [List.take_add_one, List.getElem?_eq_getElem hlt, hx]; rfl
      by_cases hge : 0 ≤ x
      · obtain ⟨to, rfl⟩ := Int.eq_ofNat_of_zero_le hge
        have hcome := come_L w2 ok.sl ok.sle ok.cl to hO2 hor2
        have hse : comesL S out (((L.take (k + 1)).filter okP).map Int.toNat) s = comeL S (comesL S out (((L.take k).filter okP).map Int.toNat) s) to out := by
          rw [htk, List.filter_append, List.map_append, comesL_app]
          simp [okP, M.comesL]
        iterate 24 (try (refine evS_sound (f := 1) ?_; simp [z0, z8, z9, z11, hlti, hlt, hix]))
        refine Stk.callS 1 hcome rfl rfl rfl (by simp) ?_
        rintro v H3 n3 ⟨rfl, hn3, hk3, role3, hr3, w3⟩
        rw [← hse] at w3
        simp
        iterate 10 (try (refine evS_sound (f := 1) ?_; simp [z11, wk]))
        exact ⟨_, by omega, hJ _ _ _ _ ⟨k + 1, role3, hlt, rfl, by simp [z0], by simp [z1], by simp [z8], by simp [z9], by simp [z10], by simp, by omega, fun j hj hr => by rw [hk3 j (by omega) (by rw [hr2 j hj]; exact hr), hk2 j hj hr], fun j hj => by rw [hr3 j (by omega), hr2 j hj], w3⟩⟩
      · have hse : ((L.take (k + 1)).filter okP).map Int.toNat = ((L.take k).filter okP).map Int.toNat := by
          rw [htk, List.filter_append]
          have : okP x = false := by simp [okP]; omega
          rw [List.filter_cons, this]; simp
        iterate 34 (try (refine evS_sound (f := 1) ?_; simp [z0, z8, z9, z11, hlti, hlt, hix, hge, wk]))
        exact ⟨_, by omega, hJ _ _ _ _ ⟨k + 1, role2, hlt, rfl, by simp [z0], by simp [z1], by simp [z8], by simp [z9], by simp [z10], by simp, hn2, hk2, hr2, by rw [hse]; exact w2⟩⟩
    · have hke : k = L.length := by omega
      subst hke
      rw [List.take_length] at w2
      cases hnx : nextP i with
      | false =>
        rw [hnx] at z10
        rw [htg, hnx, if_neg (by decide), List.append_nil] at hn
        iterate 24 (try (refine evS_sound (f := 1) ?_; simp [z9, z10, z11]))
        exact hn _ _ _ ⟨hn2, hk2, role2, hr2, w2⟩
      | true =>
        rw [hnx] at z10
        rw [htg, hnx, if_pos rfl, comesL_app] at hn
        have hcome := come_L w2 ok.sl ok.sle ok.cl (q + 1) hO2 hor2
        have wq : IntKind.i64.wrap ((q : Int) + 1) = (q : Int) + 1 := wrap64_id (by omega) (by omega)
        rw [show ((q + 1 : Nat) : Int) = (q : Int) + 1 by omega] at hcome
        iterate 34 (try (refine evS_sound (f := 1) ?_; simp [z0, z1, z8, z9, z10, z11, wq]))
        refine Stk.callS 1 hcome rfl rfl rfl (by simp) ?_
        rintro v H3 n3 ⟨rfl, hres⟩
        simp
        iterate 6 (try (refine evS_sound (f := 1) ?_; simp))
        exact hn _ _ _ (LRes.trans hn2 hk2 hr2 (by simpa [M.comesL] using hres))
  refine Stk.cut (l' := (seqs body34).drop 14) [_, _, _] rfl fun J hJ => ?_
  simp only [codes, List.map, List.cons_append, List.nil_append]
  iterate 4 (try (refine evS_sound (f := 1) ?_; simp [t4, hnb, partOf]))
  refine Stk.callF 1 hgoes rfl rfl rfl (by simp) rfl (by simp [free, freeL, freeL_encs M.fr3]) ?_
  by_cases h11 : i.Op = 11
  · have hB0 : 0 ≤ i.B := by rw [h11] at hrng; exact hrng.2.2.2.2.1
    obtain ⟨b, hb⟩ := Int.eq_ofNat_of_zero_le hB0
    have hBt := hB h11
    have hbl : b < c.Tables.length := by omega
    have hbli : (b : Int) < c.Tables.length := by omega
    have hLx : c.Tables[b] = L := by
      rw [← hL]; unfold base0
      rw [if_pos h11, hb, Int.toNat_natCast, List.getD_eq_getElem?_getD, List.getElem?_eq_getElem hbl]; rfl
    have hix : partOf T.T 47 (List.drop b (encs c47 c.Tables)) 0 = some (.ssl (encs c3 L) L.length false) := by
      have hc := cell_own (e := c47) (z := 1) c.Tables [] b 0 hbl (by omega)
      rw [List.append_nil, hLx] at hc
      simp only [partOf, T.t47]
      simpa [aggK] using hc
    have hlB : partOf T.T 3 (iC i) 2 = some (I (b : Nat)) := by rw [← hb]; rfl
    have hlO : partOf T.T 3 (iC i) 0 = some (I 11) := by rw [← h11]; rfl
    simp
    iterate 30 (try (refine evS_sound (f := 1) ?_; simp [t4, hnb, hlO]))
    refine Stk.rgD [.rd [], .rd [], .rd [], .rd [], .rd [p], .rd [], .rd [nb], .rd [], .rd [], .rd []] none (by kernel_rfl) (drawOk2_ren [p, nb] (by simp; exact hpn2) 0 [.rd [], .rd [], .rd [], .rd [], .rd [0], .rd [], .rd [1], .rd [], .rd [], .rd []] rfl (by rfl)) rfl (by simp [below]) rfl ?_
    iterate 30 (try (refine evS_sound (f := 1) ?_; simp [t0, t4, hp, hnb, hlB, hbl, hbli, hix]))
    exact hJ _ _ _ (rest _ (by simp [t0]) (by simp [t1]) (by simp [t8]) (by simp) (by simp))
  · have hLx : goesP i = L := by rw [← hL]; unfold base0; rw [if_neg h11]
    rw [hLx]
    simp
    iterate 30 (try (refine evS_sound (f := 1) ?_; simp [t4, hnb, partOf, h11]))
    exact hJ _ _ _ (rest _ (by simp [t0]) (by simp [t1]) (by simp [t8]) (by simp) (by simp))
end Go.Proofs.Ytcdafogfmijcpaa.Flo
namespace Go.Proofs.Ytcdafogfmijcpaa.Flo
open Go.Proofs.YtcdafogfmijcpaaW.Ah
open M (api_Code api_Func api_Inst c3 c4 c9 c22 c26 c29 c36 c41 c42 c44 c47 c51 StF comeP joinR LkS comeL comesL rowsT row0 fitI rowI iC takesP putsP goesP nextP thereP namesP tgP putP outP stpC)
set_option maxRecDepth 8000
set_option linter.unusedVariables false
set_option linter.unusedSimpArgs false
set_option maxHeartbeats 1000000
attribute [local simp] T.t2 T.t3 T.t4 T.t9 T.t22 T.t23 T.t24 T.t26 T.t29 T.t36 T.t39 T.t41 T.t42 T.t44 T.t47 T.t73 T.t75 Op.maxDepth List.range List.range.loop
attribute [-simp] appendAV

theorem puts01 (i : api_Inst) (hi : fitI i = true) : putsP i = 0 ∨ putsP i = 1 := by
  obtain ⟨h0, h16, _, _, _, _, _, _, hr⟩ := fit_rng i hi
  unfold M.putsP
  rw [if_pos hi, hr]
  have key : ∀ k : Nat, k < 16 → ((rowsT.getD k row0).puts = 0 ∨ (rowsT.getD k row0).puts = 1) := by decide
  exact key _ (by omega)

theorem mid34 {c : api_Code} {f : api_Func} {p A K : Nat} {role : Nat → Option Role} {H : Mem} {n : Nat} {s : LkS} (w : Lkr c f p A K role H n s) {S : Nat} (ok : Okc c f S) (i : api_Inst) (hi : fitI i = true) (q : Nat) (hq : q < 2 ^ 20) {nb : Nat} (hnb : H nb = some (.cells (iC i) 44)) (hnn : nb < n) {H0 : Mem} {n0 : Nat} (hn0 : n0 ≤ n) (hbase : ∀ j, j < n0 → H j = H0 j) (hlt0 : ∀ j, role j ≠ none → j < n0) (hnb0 : n0 ≤ nb)
    {x : M.Row} (hxl : x.length ≤ 8192) {io co : Option Nat} (hX : OwnC H 4 1 c4 io co x) (hxr : ∀ j, io = some j → role j ≠ none) {tk L : Nat} (htk : takesP i = tk) (hle : tk ≤ x.length) (hL : x.length - tk = L) (hth : thereP c i (L : Nat) = true)
    {o1 c1 : Option Nat} (hO : OwnC H 4 1 c4 o1 c1 (x.take L)) (hor : ∀ j, o1 = some j → n0 ≤ j ∧ j < n ∧ j ≠ nb) {t : Nat → AV} (t0 : t 0 = .own p 0) (t1 : t 1 = I q) (t4 : t 4 = .own nb 0) (t5 : t 5 = slc io x.length co) (t7 : t 7 = I (putsP i)) (t8 : t 8 = slc o1 (x.take L).length c1) {C : Cont}
    (hn : ∀ t H' n', LRes c f p A K role H0 n0 H' n' (comesL S (outP i x) ((tgP c i q).map Int.toNat) s) → C .normal t H' n') : Stk Try.prog T.T 119 (codes ((seqs body34).drop 7)) t H n C := by
  have rn : ∀ j, n0 ≤ j → role j = none := fun j hj => by
    cases hrj : role j with
    | none => rfl
    | some r => have := hlt0 j (by rw [hrj]; simp); omega
  have hp := w.hp
  have hpn : p < n := w.lt p (by rw [w.rp]; simp)
  have hB : i.Op = 11 → i.B < c.Tables.length := fun h11 => by
    have ht := hth
    unfold M.thereP at ht
    rw [if_neg (by omega), if_neg (by omega), if_pos h11] at ht
    simp only [Bool.and_eq_true, decide_eq_true_eq] at ht
    exact ht.1
  obtain ⟨b0, hb0⟩ : ∃ b0 : M.Row, x.take L = b0 := ⟨_, rfl⟩
  rw [hb0] at hO t8
  have hb0l : b0.length = L := by rw [← hb0, List.length_take]; omega
  obtain ⟨out1, hout1⟩ : ∃ out1 : M.Row, b0 ++ (if 0 < putsP i then [putP i x] else []) = out1 := ⟨_, rfl⟩
  have hout1l : L ≤ out1.length := by rw [← hout1, List.length_append]; omega
  have hout : outP i x = if i.Op = 14 then out1.set i.A.toNat (x.getD L false) else out1 := by
    unfold M.outP
    rw [htk, Int.toNat_natCast, hL]
    dsimp only
    rw [hb0, hout1]
  -- behind what is put
  have rest : ∀ (t' : Nat → AV) (H2 : Mem) (n2 : Nat) (o2 c2 : Option Nat), n ≤ n2 → (∀ j, j < n → o1 ≠ some j → H2 j = H j) → (∀ j, o2 = some j → (o1 = some j ∨ n ≤ j) ∧ j < n2) → OwnC H2 4 1 c4 o2 c2 out1 → t' 0 = .own p 0 → t' 1 = I q → t' 4 = .own nb 0 → t' 5 = slc io x.length co → t' 8 = slc o2 out1.length c2 → Stk Try.prog T.T 119 (codes ((seqs body34).drop 9)) t' H2 n2 C := by
    intro t' H2 n2 o2 c2 hn2 hk2 ho2 hO2 y0 y1 y4 y5 y8
    have k2 : ∀ j, j < n → role j ≠ none → H2 j = H j := fun j hj hr => hk2 j hj (fun e => hr (rn j (hor j e).1))
    have hnb2 : H2 nb = some (.cells (iC i) 44) := by rw [hk2 nb hnn (fun e => (hor nb e).2.2 rfl), hnb]
    have hr2 : ∀ j, o2 = some j → n0 ≤ j ∧ j < n2 ∧ j ≠ nb := fun j hj => by
      rcases (ho2 j hj).1 with h | h
      · have := hor j h; exact ⟨this.1, by omega, this.2.2⟩
      · exact ⟨by omega, (ho2 j hj).2, by omega⟩
    have w2 : Lkr c f p A K role H2 n2 s := w.far hn2 (by rw [k2 p hpn (by rw [w.rp]; simp), hp]) (fun j hj _ hr => k2 j hj hr)
    have fin : ∀ (t3 : Nat → AV) (H3 : Mem), (∀ j, o2 ≠ some j → H3 j = H2 j) → OwnC H3 4 1 c4 o2 c2 (outP i x) → (outP i x).length = out1.length → t3 0 = .own p 0 → t3 1 = I q → t3 4 = .own nb 0 → t3 8 = slc o2 out1.length c2 → Stk Try.prog T.T 119 (codes ((seqs body34).drop 11)) t3 H3 n2 C := fun t3 H3 hk3 hO3 hlen3 g0 g1 g4 g8 => by
      have w3 : Lkr c f p A K role H3 n2 s := w2.far (Nat.le_refl _) (by rw [hk3 p (fun e => by have := rn p (hr2 p e).1; rw [w.rp] at this; cases this), w2.hp]) (fun j hj _ hr => hk3 j (fun e => hr (rn j (hr2 j e).1)))
      refine tail34 w3 ok i hi q hq hB (by rw [hk3 nb (fun e => (hr2 nb e).2.2 rfl), hnb2]) (rn nb hnb0) (by omega) hO3 (fun j hj => ⟨rn j (hr2 j hj).1, (hr2 j hj).2.1⟩) g0 g1 g4 (by rw [hlen3]; exact g8) fun t4 H4 n4 hres => hn _ _ _ ?_
      exact LRes.trans (by omega) (fun j hj hr => by rw [hk3 j (fun e => by have := (hr2 j e).1; omega), hk2 j (by omega) (fun e => by have := (hor j e).1; omega), hbase j hj]) (fun _ _ => rfl) hres
    have hlO : partOf T.T 3 (iC i) 0 = some (I i.Op) := rfl
    refine Stk.cut (l' := (seqs body34).drop 11) [_, _] rfl fun J hJ => ?_
    simp only [codes, List.map, List.cons_append, List.nil_append]
    by_cases h14 : i.Op = 14
    · rw [if_pos h14] at hout
      have hr14 := fit_rng i hi
      have hA0 : 0 ≤ i.A := by rw [h14] at hr14; exact hr14.2.2.1
      obtain ⟨a, ha⟩ := Int.eq_ofNat_of_zero_le hA0
      have haL : a < L := by
        have ht := hth
        unfold M.thereP at ht
        rw [if_neg (by omega), if_neg (by omega), if_neg (by omega), if_pos (by omega)] at ht
        have : i.A < (L : Int) := by simpa using ht
        omega
      have htk1 : takesP i = 1 := by
        unfold M.takesP
        rw [if_pos hi, if_neg (by omega), if_neg (by omega), if_neg (by omega), hr14.2.2.2.2.2.2.2.2, h14]; rfl
      have hLx1 : L < x.length := by omega
      have hxL : x.length = L + 1 := by omega
      obtain ⟨bi, hbi⟩ := ownC_open hX hLx1
      subst hbi
      obtain ⟨yo, hio, hcc⟩ := hX
      have hioN : bi < n := w.lt bi (hxr bi rfl)
      have hio2 := (k2 bi hioN (hxr bi rfl)).trans hio
      obtain ⟨bj, hbj⟩ := ownC_open hO2 (k := a) (by omega)
      subst hbj
      obtain ⟨yj, hj2, hjc⟩ := hO2
      have hbij : bi ≠ bj := fun e => hxr bi rfl (rn bi (by rw [e]; exact (hr2 bj rfl).1))
      have hbin : bi ≠ nb := fun e => hxr bi rfl (rn bi (by rw [e]; exact hnb0))
      have hbjn := (hr2 bj rfl).2.2
      have hbjn2 := (hr2 bj rfl).2.1
      have hal : a < out1.length := by omega
      have hali : (a : Int) < out1.length := by omega
      have hw : IntKind.i64.wrap ((x.length : Int) - 1) = (L : Int) := by rw [show (x.length : Int) - 1 = (L : Int) by omega, wrap_nat L (by omega)]
      have hLxi : (L : Int) < x.length := by omega
      have hcx : partOf T.T 4 (encs c4 x ++ yo) L = some (B (x.getD L false)) := by
        have hc := cell_own (e := c4) (z := 1) x yo L 0 hLx1 (by omega)
        simp only [partOf, T.t4]
        rw [List.getD_eq_getElem?_getD, List.getElem?_eq_getElem hLx1]
        simpa [aggK] using hc
      have hpA : partOf T.T 3 (iC i) 1 = some (I i.A) := rfl
      have hsp : splice (encs c4 out1 ++ yj) a [B (x.getD L false)] = encs c4 (out1.set a (x.getD L false)) ++ yj := by
        have := splice_own (e := c4) (z := 1) out1 yj a hal (x.getD L false)
        rw [Nat.mul_one] at this; exact this
      have hll : a + 1 ≤ (encs c4 out1 ++ yj).length := by rw [List.length_append, length_encs (e := c4)]; omega
      rw [ha, Int.toNat_natCast] at hout
      rw [ha] at hpA
      rw [h14] at hlO
      have holen : (outP i x).length = out1.length := by rw [hout, List.length_set]
      generalize hyv : x.getD L false = y at hcx hsp hout
      rw [slc_some] at y5 y8
      iterate 12 (try (refine evS_sound (f := 1) ?_; simp [y4, hnb2, hlO]))
      refine Stk.rgD [.rd [], .rd [], .rd [nb], .rd [], .rd [], .rd [], .rd [], .rd [bi], .rd [bi], .rd [bj], .mem [bj] n2] none (by kernel_rfl) (drawOk2_ren [nb, bi, bj] (by simp; omega) n2 [.rd [], .rd [], .rd [0], .rd [], .rd [], .rd [], .rd [], .rd [1], .rd [1], .rd [2], .mem [2] 0] rfl (by rfl)) rfl (by simp [below]; omega) rfl ?_
      iterate 16 (try (refine evS_sound (f := 1) ?_; simp [y4, y5, y8, hnb2, hio2, hj2, hpA, hw, hcx, hLxi, hLx1, hali, hal, hll, -List.length_append]))
      refine ⟨fun j h1 h2 h3 => absurd h3 h2, ?_⟩
      iterate 3 (try (refine evS_sound (f := 1) ?_; simp))
      refine hJ _ _ _ (fin _ _ (fun j hj => upd_ne _ _ (fun e => hj (by rw [e]))) ⟨yj, ?_, fun k hk => by have h := hjc k hk; rw [List.length_append, length_encs (e := c4)] at h ⊢; omega⟩ holen (by simp [y0]) (by simp [y1]) (by simp [y4]) (by simp [y8]))
      rw [upd_same, hout]
      have h := hsp; unfold splice at h; simpa using h
    · rw [if_neg h14] at hout
      iterate 16 (try (refine evS_sound (f := 1) ?_; simp [y4, hnb2, hlO, h14]))
      exact hJ _ _ _ (fin _ _ (fun _ _ => rfl) (by rw [hout]; exact hO2) (by rw [hout]) (by simp [y0]) (by simp [y1]) (by simp [y4]) (by simp [y8]))
  refine Stk.cut (l' := (seqs body34).drop 9) [_, _] rfl fun J hJ => ?_
  simp only [codes, List.map, List.cons_append, List.nil_append]
  rcases puts01 i hi with hP | hP
  · rw [hP, if_neg (by decide), List.append_nil] at hout1
    rw [hP] at t7
    iterate 16 (try (refine evS_sound (f := 1) ?_; simp [t7]))
    exact hJ _ _ _ (rest _ _ _ o1 c1 (Nat.le_refl _) (fun _ _ _ => rfl) (fun j hj => ⟨.inl hj, (hor j hj).2.1⟩) (by rw [← hout1]; exact hO) (by simp [t0]) (by simp [t1]) (by simp [t4]) (by simp [t5]) (by rw [← hout1]; simp [t8]))
  · rw [hP, if_pos (by decide)] at hout1
    rw [hP] at t7
    have h2A : i.Op = 2 → 0 ≤ i.A ∧ i.A < x.length := fun e => by
      have hr := fit_rng i hi
      rw [e] at hr
      have ht := hth
      unfold M.thereP at ht
      rw [if_neg (by omega), if_neg (by omega), if_neg (by omega), if_pos (.inl e)] at ht
      have : i.A < (L : Int) := by simpa using ht
      have h0 : (0 : Int) ≤ i.A := hr.2.2.1
      exact ⟨h0, by omega⟩
    have h8A : i.Op = 8 → 0 < x.length := fun e => by
      have h1 : takesP i = i.A + 1 := by unfold M.takesP; rw [if_pos hi, if_neg (by omega), if_neg (by omega), if_pos e]
      have hr := fit_rng i hi
      rw [e] at hr
      have h0 : (1 : Int) ≤ i.A := hr.2.2.1
      omega
    have hput := M.ok_R21_put 0 i x _ (M.put21_M 0 i x hi h2A h8A (by omega))
    rw [M.c44_eq] at hput
    obtain ⟨o2, c2, H2, n2, e2, oo2, le2, f2, k2⟩ := append_ownC (e := c4) (z := 1) T.t42 rfl T.t4 rfl (by decide) rfl (by decide) (H := upd H n (some (.cells [B (putP i x)] 4))) (n := n + 1) (o := o1) (c := c1) (xs := b0)
      (hO.mono fun j hj => upd_ne _ _ (by have := hor j hj; omega)) (fun j hj => by have := hor j hj; omega) (y := .osl n 0 1 (some 1)) [putP i x] (by simp [encs, elemsOf]) rfl (by simp [roomMax]; omega) (by simp [roomMax]; omega)
    rw [hout1] at e2 oo2
    iterate 12 (try (refine evS_sound (f := 1) ?_; simp [t4, t5, t7, t8, hnb, partOf]))
    refine Stk.callB 1 io.toList hput rfl rfl rfl (by simp) (.cons (.free rfl) (.cons (view_ownC (e := c4) (z := 1) M.fr4 hX (fun j hj => by rw [hj]; simp)) .nil)) rfl ?_
    simp [e2, t8]
    iterate 10 (try (refine evS_sound (f := 1) ?_; simp [e2, t8]))
    exact hJ _ _ _ (rest _ _ _ o2 c2 (by omega) (fun j hj hne => by rw [k2 j (by omega) hne, upd_ne _ _ (by omega)]) (fun j hj => ⟨by rcases (f2 j hj).1 with h | h; exact .inl h; exact .inr (by omega), (f2 j hj).2⟩) oo2 (by simp [t0]) (by simp [t1]) (by simp [t4]) (by simp [t5]) (by simp))
end Go.Proofs.Ytcdafogfmijcpaa.Flo
namespace Go.Proofs.Ytcdafogfmijcpaa.Flo
open Go.Proofs.YtcdafogfmijcpaaW.Ah
open M (api_Code api_Func api_Inst c3 c4 c9 c22 c26 c29 c36 c41 c42 c44 c47 c51 StF comeP joinR LkS comeL comesL rowsT row0 fitI rowI iC takesP putsP goesP nextP thereP namesP tgP putP outP stpC)
set_option maxRecDepth 8000
set_option linter.unusedVariables false
set_option linter.unusedSimpArgs false
set_option maxHeartbeats 1000000
attribute [local simp] T.t2 T.t3 T.t4 T.t9 T.t22 T.t23 T.t24 T.t26 T.t29 T.t36 T.t39 T.t41 T.t42 T.t44 T.t47 T.t73 T.t75 Op.maxDepth List.range List.range.loop
attribute [-simp] appendAV

theorem RunQ.parts {P : Program} {T : Tab} {f : FuncId} {fn : Func} {c : Code} {args : List AV} {H0 : Mem} {n0 : Nat} {Z : AV → Mem → Nat → Prop} (h1 : P.funcs[f]? = some fn) (h2 : fn.body = some c) (h3 : (fn.name == "runtime.NumGoroutine") = false) {k : Nat} (hk : fn.ntmps = k) (h4 : Nat.ble args.length k = true) {rs : List ResultVar} (hrs : fn.results.toList = rs)
    (h : ∀ C : Cont, (∀ t H n r, resOf T rs ⟨t, H, n⟩ = some r → Z r H n → C .ret t H n ∧ C .normal t H n) → Stk P T k (codes (seqs c)) (initT args) H0 n0 C) : RunQ P T f args H0 n0 Z := by
  refine RunQ.ev 0 h1 h2 h3 hk h4 hrs fun C a b => ?_
  have := Stk.seqs c [] (by rw [List.append_nil]; exact h C fun t H n r x y => ⟨a t H n r x y, b t H n r x y⟩)
  exact this

theorem step_L {c : api_Code} {f : api_Func} {p A K : Nat} {role : Nat → Option Role} {H : Mem} {n : Nat} {s : LkS} (w : Lkr c f p A K role H n s) {S : Nat} (ok : Okc c f S) (hwf : ∀ (q : Nat) (x : M.Row), s.st[q]? = some (some x) → x.length ≤ S) {q : Nat} {x : M.Row} (hx : s.st[q]? = some (some x)) :
    RunQ Try.prog T.T 34 [.own p 0, I q] H n (fun r H' n' => r = .tup [] ∧ LRes c f p A K role H n H' n' (M.stepL S (stpC c f) s q x)) := by
  have hp := w.hp
  obtain ⟨hv, hA, hvl, hrow⟩ := w.hA
  have hpn : p < n := w.lt p (by rw [w.rp]; simp)
  have hAn : A < n := w.lt A (by rw [w.rA]; simp)
  have hpA : p ≠ A := fun e => by have h1 := w.rp; rw [e, w.rA] at h1; cases h1
  have hsl := w.sl
  have hqs : q < s.st.length := (List.getElem?_eq_some_iff.1 hx).1
  obtain ⟨i, hi⟩ : ∃ i, f.Code[q]? = some i := ⟨_, List.getElem?_eq_getElem (by omega)⟩
  have hfit := ok.fit q i hi
  obtain ⟨v, hvq, io, co, rfl, hX, hxr⟩ := hrow q _ hx
  have hxS := hwf q x hx
  have hS := ok.sle
  have hcl := ok.cl
  have hql : q < f.Code.length := by omega
  have hqli : (q : Int) < f.Code.length := by omega
  have hqsi : (q : Int) < s.st.length := by omega
  have hin := instAt f hi
  have hvl2 : q < hv.length := by omega
  have hpv : partOf T.T 42 hv q = some (slc io x.length co) := by simp only [partOf, T.t42]; simpa [aggK] using hvq
  obtain ⟨tk0, tk1⟩ := tk_nonneg i hfit
  have hstp : stpC c f q x = if (takesP i).toNat ≤ x.length ∧ thereP c i ((x.length - (takesP i).toNat : Nat) : Int) = true then some (outP i x, (tgP c i q).map Int.toNat) else none := by
    unfold M.stpC; rw [hi]
  obtain ⟨tk, htk⟩ := Int.eq_ofNat_of_zero_le tk0
  have htn : (takesP i).toNat = tk := by omega
  rw [htn] at hstp
  have htakes := M.ok_R19_Takes 0 i _ (M.takes19_M 0 i hfit)
  rw [M.c44_eq] at htakes
  simp only [htk] at htakes
  have bad : ∀ (H1 H' : Mem) (n' : Nat), n ≤ n' → (∀ j, j < n → H1 j = H j) → H' p = some (.cells (lkC c f A K s.st.length false s.more) 75) → (∀ j, j ≠ p → H' j = H1 j) → LRes c f p A K role H n H' n' ⟨s.st, false, s.more⟩ := fun H1 H' n' hn hk h1 h2 =>
    ⟨hn, fun j hj hr => by rw [h2 j (fun e => by rw [e, w.rp] at hr; cases hr), hk j hj], role, fun _ _ => rfl, w.far hn h1 (fun j hj hjp _ => by rw [h2 j hjp, hk j hj])⟩
  refine RunQ.parts (c := body34) Try.func34 rfl rfl rfl rfl rfl fun C hCC => ?_
  have hn : ∀ t H' n', LRes c f p A K role H n H' n' (M.stepL S (stpC c f) s q x) → C .normal t H' n' := fun t H' n' h => (hCC t H' n' (.tup []) (by simp) ⟨rfl, h⟩).2
  have hr : ∀ t H' n', LRes c f p A K role H n H' n' (M.stepL S (stpC c f) s q x) → C .ret t H' n' := fun t H' n' h => (hCC t H' n' (.tup []) (by simp) ⟨rfl, h⟩).1
  clear hCC
  unfold M.stepL at hn hr
  rw [hstp] at hn hr
  have hlt0 : ∀ j, role j ≠ none → j < n := w.lt
  have hpn2 : ¬ p = n := by omega
  have hAn2 : ¬ A = n := by omega
  have rest : ∀ (t' : Nat → AV) (H1 : Mem), (∀ j, j < n → H1 j = H j) → H1 n = some (.cells (iC i) 44) → t' 0 = .own p 0 → t' 1 = I q → t' 4 = .own n 0 → t' 5 = slc io x.length co → t' 6 = I tk → t' 7 = I (putsP i) → Stk Try.prog T.T 119 (codes ((seqs body34).drop 3)) t' H1 (n + 1) C := by
    intro t' H1 hk1 hb1 y0 y1 y4 y5 y6 y7
    have hp1 := (hk1 p hpn).trans hp
    have hX1 : OwnC H1 4 1 c4 io co x := hX.mono fun j hj => hk1 j (hlt0 j (by rw [hxr j hj]; simp))
    by_cases hle : tk ≤ x.length
    case neg =>
      rw [if_neg (fun h => hle h.1)] at hr
      have hgt : (x.length : Int) < tk := by omega
      refine Stk.cut (l' := (seqs body34).drop 5) [_, _] rfl fun J hJ => ?_
      simp only [codes, List.map, List.cons_append, List.nil_append]
      cases io with
      | none =>
        have hx0 : x = [] := hX
        subst hx0
        have hgt0 : (0 : Int) < tk := by simpa using hgt
        have hgt1 : 0 < tk := by omega
        iterate 50 (try (refine evS_sound (f := 1) ?_; simp [y0, y4, y5, y6, hp1, hgt0, hgt1, partOf, splice]))
        exact hr _ _ _ (bad H1 _ _ (by omega) hk1 (by simp) (fun j hj => by simp [hj]))
      | some b =>
        iterate 50 (try (refine evS_sound (f := 1) ?_; simp [y0, y4, y5, y6, hp1, hgt, partOf, splice]))
        exact hr _ _ _ (bad H1 _ _ (by omega) hk1 (by simp) (fun j hj => by simp [hj]))
    obtain ⟨L, hL⟩ : ∃ L, x.length - tk = L := ⟨_, rfl⟩
    rw [hL] at hn hr
    have hngt : ¬ (x.length : Int) < tk := by omega
    have hw : IntKind.i64.wrap ((x.length : Int) - tk) = (L : Int) := by rw [show (x.length : Int) - tk = (L : Int) by omega, wrap_nat L (by omega)]
    have w1 : Lkr c f p A K role H1 (n + 1) s := w.far (by omega) hp1 (fun j hj _ _ => hk1 j hj)
    have hthere := there_ok (n := n + 1) hp1 (by omega) i hfit L
    have go : ∀ (t2 : Nat → AV) (H3 : Mem) (n3 : Nat) (o1 c1 : Option Nat), thereP c i (L : Nat) = true → n + 1 ≤ n3 → (∀ j, j < n + 1 → H3 j = H1 j) → OwnC H3 4 1 c4 o1 c1 (x.take L) → (∀ j, o1 = some j → n + 1 ≤ j ∧ j < n3) → t2 0 = .own p 0 → t2 1 = I q → t2 4 = .own n 0 → t2 5 = slc io x.length co → t2 7 = I (putsP i) → t2 8 = slc o1 (x.take L).length c1 → Stk Try.prog T.T 119 (codes ((seqs body34).drop 7)) t2 H3 n3 C := fun t2 H3 n3 o1 c1 hth hn3 hk3 hO3 ho3 z0 z1 z4 z5 z7 z8 => by
      have w3 : Lkr c f p A K role H3 n3 s := w1.far hn3 (by rw [hk3 p (by omega), hp1]) (fun j hj _ _ => hk3 j hj)
      rw [if_pos ⟨hle, hth⟩] at hn
      exact mid34 w3 ok i hfit q (by omega) (by rw [hk3 n (by omega), hb1]) (by omega) (H0 := H) (n0 := n) (by omega) (fun j hj => by rw [hk3 j (by omega), hk1 j hj]) hlt0 (Nat.le_refl _) (by omega)
        (hX1.mono fun j hj => hk3 j (by have := hlt0 j (by rw [hxr j hj]; simp); omega)) (fun j hj => by rw [hxr j hj]; simp) htk hle hL hth hO3 (fun j hj => by have := ho3 j hj; omega) z0 z1 z4 z5 z7 z8 hn
    refine Stk.cut (l' := (seqs body34).drop 7) [_, _, _, _] rfl fun J hJ => ?_
    simp only [codes, List.map, List.cons_append, List.nil_append]
    cases io with
    | none =>
      have hx0 : x = [] := hX
      subst hx0
      have htk0 : tk = 0 := by simpa using hle
      subst htk0
      have hL0 : L = 0 := by simpa using hL.symm
      subst hL0
      have hw0 : IntKind.i64.wrap 0 = 0 := wrap_nat 0 (by omega)
      iterate 50 (try (refine evS_sound (f := 1) ?_; simp [y0, y4, y5, y6, hb1, hw0, partOf]))
      refine Stk.callS 1 hthere rfl rfl rfl (by simp) ?_
      rintro v H2 n2 ⟨rfl, hn2, hk2⟩
      have hp2 := (hk2 p (by omega)).trans hp1
      cases hth : thereP c i ((0 : Nat) : Int) with
      | false =>
        rw [hth, if_neg (fun h => by cases h.2)] at hr
        simp
        iterate 20 (try (refine evS_sound (f := 1) ?_; simp [y0, hp2, partOf, splice]))
        exact hr _ _ _ (bad H2 _ _ (by omega) (fun j hj => by rw [hk2 j (by omega), hk1 j hj]) (by simp) (fun j hj => by simp [hj]))
      | true =>
        obtain ⟨o1, c1, H3, n3, e3, o3, le3, f3, k3⟩ := app33 (H := H2) (n := n2) (y := .sc (.slice none 0 0)) (xs := []) rfl (by simp)
        simp
        iterate 40 (try (refine evS_sound (f := 1) ?_; simp [y5, y6, hw0, e3]))
        exact hJ _ _ _ (go _ _ _ o1 c1 hth (by omega) (fun j hj => by rw [k3 j (by omega), hk2 j hj]) o3 (fun j hj => by have := f3 j hj; omega) (by simp [y0]) (by simp [y1]) (by simp [y4]) (by simp [y5]) (by simp [y7]) (by simp))
    | some b =>
      obtain ⟨yo, hb0, hcc⟩ := hX1
      have hbn : b < n := hlt0 b (by rw [hxr b rfl]; simp)
      have hlen : (encs c4 x ++ yo).length = x.length + yo.length := by rw [List.length_append, length_encs (e := c4), Nat.mul_one]
      iterate 50 (try (refine evS_sound (f := 1) ?_; simp [y0, y4, y5, y6, hb1, hw, hngt, partOf]))
      refine Stk.callS 1 hthere rfl rfl rfl (by simp) ?_
      rintro v H2 n2 ⟨rfl, hn2, hk2⟩
      have hp2 := (hk2 p (by omega)).trans hp1
      have hb2 := (hk2 b (by omega)).trans hb0
      cases hth : thereP c i (L : Int) with
      | false =>
        rw [hth, if_neg (fun h => by cases h.2)] at hr
        simp
        iterate 20 (try (refine evS_sound (f := 1) ?_; simp [y0, hp2, partOf, splice]))
        exact hr _ _ _ (bad H2 _ _ (by omega) (fun j hj => by rw [hk2 j (by omega), hk1 j hj]) (by simp) (fun j hj => by simp [hj]))
      | true =>
        have hel : ∀ cx, elemsOf H2 1 (.osl b 0 L cx) = some ((x.take L).length, encs c4 (x.take L)) := fun cx => by
          have hll : (x.take L).length = L := by rw [List.length_take]; omega
          rw [hll]
          simp only [elemsOf, hb2]
          rw [if_pos (by rw [hlen]; omega), List.drop_zero]
          have e : encs c4 x = encs c4 (x.take L) ++ encs c4 (x.drop L) := by rw [← encs_append, List.take_append_drop]
          rw [e, List.append_assoc, List.take_left' (by rw [length_encs (e := c4), hll])]
        obtain ⟨o1, c1, H3, n3, e3, o3, le3, f3, k3⟩ := app33 (H := H2) (n := n2) (y := .osl b 0 L co) (xs := x.take L) (hel co) (by rw [List.length_take]; omega)
        generalize hx1 : x.take L = b1 at e3 o3 go
        simp
        cases co with
        | none =>
          have hL1 : L ≤ x.length + yo.length := by omega
          have hL2 : (L : Int) ≤ (x.length : Int) + (yo.length : Int) := by omega
          have hL3 : L ≤ max x.length (x.length + yo.length) := by omega
          iterate 40 (try (refine evS_sound (f := 1) ?_; simp [y5, y6, hw, hb2, hlen, hL1, hL2, hL3, e3]))
          exact hJ _ _ _ (go _ _ _ o1 c1 hth (by omega) (fun j hj => by rw [k3 j (by omega), hk2 j hj]) o3 (fun j hj => by have := f3 j hj; omega) (by simp [y0]) (by simp [y1]) (by simp [y4]) (by simp [y5]) (by simp [y7]) (by simp))
        | some cq =>
          have hL1 : L ≤ cq := by have := (hcc cq rfl).1; omega
          have hL2 : (L : Int) ≤ cq := by omega
          iterate 40 (try (refine evS_sound (f := 1) ?_; simp [y5, y6, hw, hb2, hL1, hL2, e3]))
          exact hJ _ _ _ (go _ _ _ o1 c1 hth (by omega) (fun j hj => by rw [k3 j (by omega), hk2 j hj]) o3 (fun j hj => by have := f3 j hj; omega) (by simp [y0]) (by simp [y1]) (by simp [y4]) (by simp [y5]) (by simp [y7]) (by simp))
  refine Stk.cut (l' := (seqs body34).drop 3) [_, _, _] rfl fun J hJ => ?_
  simp only [codes, List.map, List.cons_append, List.nil_append]
  iterate 40 (try (refine evS_sound (f := 1) ?_; simp [hp, hA, hql, hqli, hqs, hqsi, hin, hpv, partOf_drop, splice, hpn2, hAn2]))
  iterate 10 (try (refine evS_sound (f := 1) ?_; simp [partOf]))
  refine Stk.callF 1 htakes rfl rfl rfl (by simp) rfl rfl ?_
  simp
  iterate 10 (try (refine evS_sound (f := 1) ?_; simp))
  refine hJ _ _ _ (rest _ _ (fun j hj => ?_) (by simp) (by simp) (by simp) (by simp) (by simp) (by simp) (by simp))
  rw [upd_ne _ _ (by omega), upd_ne _ _ (by omega)]
end Go.Proofs.Ytcdafogfmijcpaa.Flo
namespace Go.Proofs.Ytcdafogfmijcpaa.Flo
open Go.Proofs.YtcdafogfmijcpaaW.Ah
open M (api_Code api_Func api_Inst c3 c4 c9 c22 c26 c29 c36 c41 c42 c44 c47 c51 StF comeP joinR LkS comeL comesL rowsT row0 fitI rowI iC takesP putsP goesP nextP thereP namesP tgP putP outP stpC Sol Least InvL Swept mu rowsOf)
set_option maxRecDepth 8000
set_option linter.unusedVariables false
set_option linter.unusedSimpArgs false
set_option maxHeartbeats 1000000
attribute [local simp] T.t2 T.t3 T.t4 T.t9 T.t22 T.t23 T.t24 T.t26 T.t29 T.t36 T.t39 T.t41 T.t42 T.t44 T.t47 T.t73 T.t75 Op.maxDepth List.range List.range.loop
attribute [-simp] appendAV

def LookZ (c : api_Code) (f : api_Func) (S P : Nat) (H : Mem) (n : Nat) (r : AV) (H' : Mem) (n' : Nat) : Prop :=
  ∃ (st : StF) (ok : Bool), r = .tup [.ssl (encs c42 (rowsOf st)) (rowsOf st).length false, B ok] ∧ (ok = true → Least f.Code.length S (List.replicate P true) (stpC c f) st) ∧ (ok = false → ¬ ∃ t, Sol f.Code.length S (List.replicate P true) (stpC c f) t) ∧ n ≤ n' ∧ ∀ j, j < n → H' j = H j

theorem lkr0 {c : api_Code} {f : api_Func} {p A K : Nat} {H : Mem} {n : Nat} (hpA : p ≠ A) (hpK : p ≠ K) (hAK : A ≠ K) (hp : p < n) (hA : A < n) (hK : K < n)
    (h1 : H p = some (.cells (lkC c f A K f.Code.length true false) 75)) (h2 : H A = some (.cells (List.replicate f.Code.length (.sc (.slice none 0 0))) 42)) (h3 : H K = some (.cells (List.replicate f.Code.length (B false)) 4)) :
    Lkr c f p A K (role0 p A K) H n ⟨List.replicate f.Code.length none, true, false⟩ := by
  refine ⟨by rw [h1]; simp, ⟨_, h2, by simp, fun q r hq => ?_⟩, by rw [h3]; simp, by simp [role0], by simp [role0, Ne.symm hpA], by simp [role0, Ne.symm hpK, Ne.symm hAK], fun j hj => ?_, by simp⟩
  · obtain ⟨g1, g2⟩ := List.getElem?_eq_some_iff.1 hq
    simp only [List.length_replicate] at g1
    simp only [List.getElem_replicate] at g2
    subst g2
    exact ⟨.sc (.slice none 0 0), by simp [g1], rfl⟩
  · unfold role0 at hj
    split at hj
    · omega
    · split at hj
      · omega
      · split at hj
        · omega
        · exact absurd rfl hj

theorem view_rowsL {H : Mem} {role : Nat → Option Role} {ids : List Nat} : ∀ (st : StF) (hv : List AV) (f : Nat → Nat), hv.length = st.length → (∀ (q : Nat) (r : Option M.Row), st[q]? = some r → ∃ v, hv[q]? = some v ∧ RowL H role (f q) v r) → (∀ v ∈ hv, ∀ i, blkOf v = some i → i ∈ ids) → ViewL T.T H ids hv (encs c42 (rowsOf st))
  | [], [], _, _, _, _ => .nil
  | r :: st, v :: hv, f, hl, h, hi => by
    have hx : rowsOf (r :: st) = r.getD [] :: rowsOf st := rfl
    rw [hx, encs_cons]
    obtain ⟨v', h1, h2⟩ := h 0 r rfl
    simp only [List.getElem?_cons_zero, Option.some.injEq] at h1
    subst h1
    refine .cons ?_ (view_rowsL st hv (fun q => f (q + 1)) (by simpa using hl) (fun q r' hq => by
      obtain ⟨v'', g1, g2⟩ := h (q + 1) r' (by simpa using hq)
      exact ⟨v'', by simpa using g1, g2⟩) (fun v' hv' => hi v' (by simp [hv'])))
    cases r with
    | none => have : v = .sc (.slice none 0 0) := h2; subst this; exact .nilS
    | some x =>
      obtain ⟨o, cc, rfl, h3, h4⟩ := h2
      exact view_ownC (e := c4) (z := 1) M.fr4 h3 (fun j hj => hi (slc o x.length cc) (by simp) j (by subst hj; rfl))
  | [], _ :: _, _, hl, _, _ => by simp at hl
  | _ :: _, [], _, hl, _, _ => by simp at hl

theorem look_ok {c : api_Code} {f : api_Func} {H0 : Mem} {n0 : Nat} {S P : Nat} (ok : Okc c f S) (hP : f.Params = P) (hPl : P ≤ 2 ^ 20) :
    RunQ Try.prog T.T 19 [.agg [.ssl (encs c41 c.Funs) c.Funs.length false, .ssl (encs c51 c.Texts) c.Texts.length false, .ssl (encs c47 c.Tables) c.Tables.length false], .agg [.sc (.string f.Name), I f.Params, I f.Slots, .ssl (encs c44 f.Code) f.Code.length false]] H0 n0 (LookZ c f S P H0 n0) := by
  have hcl := ok.cl
  have hroom : (f.Code.length : Int) ≤ (roomMax : Int) := by unfold roomMax; omega
  have hroom2 : (f.Code.length : Int) * 24 ≤ (roomMax : Int) := by unfold roomMax; omega
  have hroom3 : (P : Int) ≤ (roomMax : Int) := by unfold roomMax; omega
  refine RunQ.z Try.func19 rfl rfl rfl rfl rfl fun C hr => ?_
  iterate 30 (try (refine evS_sound (f := 1) ?_; simp [partOf]))
  refine Stk.rgD [.rd [n0], .rd [n0 + 1], .rd [], .mem [] (n0 + 2), .rd [], .mem [] (n0 + 2), .rd [], .mem [] (n0 + 2), .rd []] (some 5) (by kernel_rfl) (drawOk2_ren [n0, n0 + 1] (by simp) (n0 + 2) [.rd [0], .rd [1], .rd [], .mem [] 0, .rd [], .mem [] 0, .rd [], .mem [] 0, .rd []] rfl (by rfl)) rfl (by simp [below]) rfl ?_
  iterate 8 (try (refine evS_sound (f := 1) ?_; simp [partOf, hroom, hroom2]))
  refine ⟨fun j h1 h2 => by omega, ?_⟩
  iterate 8 (try (refine evS_sound (f := 1) ?_; simp [partOf, hroom, hroom2]))
  refine ⟨fun j h1 h2 => by omega, ?_⟩
  iterate 8 (try (refine evS_sound (f := 1) ?_; simp [partOf, hroom, hroom2]))
  refine ⟨fun j h1 h2 => by omega, ?_⟩
  iterate 4 (try (refine evS_sound (f := 1) ?_; simp))
  obtain ⟨A, hA⟩ : ∃ A, A = n0 + 1 + 1 := ⟨_, rfl⟩
  obtain ⟨K, hK⟩ : ∃ K, K = n0 + 1 + 1 + 1 := ⟨_, rfl⟩
  obtain ⟨p, hp⟩ : ∃ p, p = n0 + 1 + 1 + 1 + 1 := ⟨_, rfl⟩
  rw [← hp, ← hK, ← hA]
  obtain ⟨H1, hH1⟩ : ∃ H1 : Mem, H1 = upd (upd (upd (upd (upd H0 n0 (some (.cells [.ssl (encs c41 c.Funs) c.Funs.length false, .ssl (encs c51 c.Texts) c.Texts.length false, .ssl (encs c47 c.Tables) c.Tables.length false] 26))) (n0 + 1) (some (.cells [.sc (.string f.Name), I f.Params, I f.Slots, .ssl (encs c44 f.Code) f.Code.length false] 41))) A (some (.cells (List.replicate f.Code.length (.sc (.slice none 0 0))) 42))) K (some (.cells (List.replicate f.Code.length (.sc (.bool false))) 4))) p (some (.cells (lkC c f A K f.Code.length true false) 75)) := ⟨_, rfl⟩
  rw [← hH1]
  have hpv : p = n0 + 4 := by omega
  have hAv : A = n0 + 2 := by omega
  have hKv : K = n0 + 3 := by omega
  have w0 : Lkr c f p A K (role0 p A K) H1 (p + 1) ⟨List.replicate f.Code.length none, true, false⟩ :=
    lkr0 (by omega) (by omega) (by omega) (by omega) (by omega) (by omega) (by rw [hH1, upd_same]) (by rw [hH1, upd_ne _ _ (by omega), upd_ne _ _ (by omega), upd_same]) (by rw [hH1, upd_ne _ _ (by omega), upd_same])
  have hk1 : ∀ j, j < n0 → H1 j = H0 j := fun j hj => by rw [hH1, upd_ne _ _ (by omega), upd_ne _ _ (by omega), upd_ne _ _ (by omega), upd_ne _ _ (by omega), upd_ne _ _ (by omega)]
  have hf1 : H1 (n0 + 1) = some (.cells [.sc (.string f.Name), I f.Params, I f.Slots, .ssl (encs c44 f.Code) f.Code.length false] 41) := by rw [hH1, upd_ne _ _ (by omega), upd_ne _ _ (by omega), upd_ne _ _ (by omega), upd_same]
  clear hH1
  have rn : ∀ j, j < A → role0 p A K j = none := fun j hj => by unfold role0; rw [if_neg (by omega), if_neg (by omega), if_neg (by omega)]
  have rn2 : ∀ j, p < j → role0 p A K j = none := fun j hj => by unfold role0; rw [if_neg (by omega), if_neg (by omega), if_neg (by omega)]
  refine Stk.gen (fun t H n => t 3 = .own (n0 + 1) 0 ∧ t 6 = I f.Code.length ∧ t 7 = .own p 0 ∧ H = H1 ∧ n = p + 1) ⟨by simp, by simp, by simp, rfl, rfl⟩ ?_
  rintro t H' n' ⟨t3, t6, t7, hHe, hne⟩
  rw [hHe, hne]
  clear hHe hne
  obtain ⟨first, hfirst⟩ : ∃ first : M.Row, List.replicate P true = first := ⟨_, rfl⟩
  have hflen : first.length = P := by rw [← hfirst, List.length_replicate]
  unfold LookZ at hr
  rw [hfirst] at hr
  iterate 10 (try (refine evS_sound (f := 1) ?_; simp [t3, hf1, hP, hroom3, partOf]))
  rw [repB]
  iterate 6 (try (refine evS_sound (f := 1) ?_; simp))
  refine Stk.loop 4 (fun μ t H' n' => ∃ k : Nat, k ≤ P ∧ μ = P - k ∧ t 3 = .own (n0 + 1) 0 ∧ t 6 = I f.Code.length ∧ t 7 = .own p 0 ∧ t 8 = .osl (p + 1) 0 P (some P) ∧ t 9 = I k ∧ H' (p + 1) = some (.cells (encs c4 (List.replicate k true ++ List.replicate (P - k) false)) 4) ∧ (∀ j, j ≠ p + 1 → H' j = H1 j) ∧ n' = p + 1 + 1) P
    ⟨0, by omega, rfl, by simp [t3], by simp [t6], by simp [t7], by simp, by simp, by simp, fun j hj => by simp [hj], rfl⟩ ?_
  rintro J hJ μ t H2 n2 ⟨k, hk, rfl, t3, t6, t7, t8, t9, hn2, hk2, rfl⟩
  have hf2 := (hk2 (n0 + 1) (by omega)).trans hf1
  by_cases hlt : k < P
  · have hlti : (k : Int) < P := by omega
    have wk := wrap_succ k (by omega)
    have hsp : splice (encs c4 (List.replicate k true ++ List.replicate (P - k) false)) k [B true] = encs c4 (List.replicate (k + 1) true ++ List.replicate (P - (k + 1)) false) := by
      have := splice_encs (e := c4) (z := 1) (List.replicate k true ++ List.replicate (P - k) false) k (by simp; omega) true
      rw [Nat.mul_one, rep_set P k hlt] at this; exact this
    have hll : k + 1 ≤ (encs c4 (List.replicate k true ++ List.replicate (P - k) false)).length := by rw [length_encs (e := c4)]; simp; omega
    generalize encs c4 (List.replicate k true ++ List.replicate (P - k) false) = cs at hn2 hsp hll
    iterate 40 (try (refine evS_sound (f := 1) ?_; simp [t3, t8, t9, hf2, hP, hlti, hlt, hn2, hll, wk]))
    refine ⟨_, by omega, hJ _ _ _ _ ⟨k + 1, hlt, rfl, by simp [t3], by simp [t6], by simp [t7], by simp [t8], by simp, ?_, fun j hj => by simp [hj, hk2 j hj], rfl⟩⟩
    have h := hsp; unfold splice at h; simpa using h
  · have hke : k = P := by omega
    subst hke
    rw [Nat.sub_self, List.replicate_zero, List.append_nil, hfirst] at hn2
    have w1 : Lkr c f p A K (role0 p A K) H2 (p + 1 + 1) ⟨List.replicate f.Code.length none, true, false⟩ := w0.far (by omega) ((hk2 p (by omega)).trans w0.hp) (fun j hj _ _ => hk2 j (by omega))
    have hcome := come_L w1 ok.sl ok.sle ok.cl 0 (ob := some (p + 1)) (cc := some k) (xs := first) ⟨[], by rw [List.append_nil]; exact hn2, fun q hq => by cases hq; rw [List.append_nil, length_encs (e := c4)]; omega⟩ (fun j hj => by cases hj; exact ⟨rn2 _ (by omega), by omega⟩)
    rw [hflen] at hcome
    iterate 30 (try (refine evS_sound (f := 1) ?_; simp [t3, t7, t8, t9, hf2, hP]))
    refine Stk.callS 1 hcome rfl rfl rfl (by simp) ?_
    rintro v H3 n3 ⟨rfl, g1, g2, role3, g3, w3⟩
    obtain ⟨inv3, hmore3⟩ := M.beginL_ok (n := f.Code.length) (S := S) (fst := first) (stp := stpC c f) trivial
    have hfr3 : ∀ j, j < n0 → H3 j = H0 j := fun j hj => by rw [g2 j (by omega) (rn j (by omega)), hk2 j (by omega), hk1 j hj]
    generalize comeL S ⟨List.replicate f.Code.length none, true, false⟩ 0 first = s3 at w3 inv3 hmore3
    have fin : ∀ (t : Nat → AV) (H' : Mem) (n' : Nat) (role' : Nat → Option Role) (s' : LkS), t 4 = .osl A 0 s'.st.length (some s'.st.length) → t 5 = B s'.ok → p + 1 + 1 ≤ n' → (∀ j, j < n0 → H' j = H0 j) → (∀ j, j < p + 1 + 1 → role' j = role0 p A K j) → Lkr c f p A K role' H' n' s' → InvL f.Code.length S first (stpC c f) s' → Swept S (stpC c f) s' f.Code.length → (s'.ok = true → s'.more = false) → C .ret t H' n' := fun t H' n' role' s' t4 t5 hn' hfr hro w inv hsw hmf => by
      obtain ⟨hv, hA', hvl, hrow⟩ := w.hA
      obtain ⟨ids, hids⟩ : ∃ ids, ids = A :: hv.filterMap blkOf := ⟨_, rfl⟩
      have hidn : ∀ i ∈ ids, n0 ≤ i := fun i hi => by
        rw [hids] at hi
        rcases List.mem_cons.1 hi with h | h
        · omega
        · obtain ⟨v, hv1, hv2⟩ := List.mem_filterMap.1 h
          obtain ⟨q, hq1, hq2⟩ := List.mem_iff_getElem.1 hv1
          obtain ⟨v', e1, e2⟩ := hrow q s'.st[q] (List.getElem?_eq_getElem (by omega))
          rw [List.getElem?_eq_getElem hq1, hq2] at e1
          cases e1
          cases hsq : s'.st[q] with
          | none => rw [hsq] at e2; have : v = .sc (.slice none 0 0) := e2; subst this; cases hv2
          | some x =>
            rw [hsq] at e2
            obtain ⟨o, cc, rfl, _, hri⟩ := e2
            cases o with
            | none => cases hv2
            | some i' =>
              cases hv2
              refine Nat.le_of_not_lt fun hlt => ?_
              have := hri i rfl
              rw [hro i (by omega), rn i (by omega)] at this
              cases this
      have hrl : (rowsOf s'.st).length = s'.st.length := by unfold M.rowsOf; rw [List.length_map]
      have hview : View T.T H' ids (.osl A 0 s'.st.length (some s'.st.length)) (.ssl (encs c42 (rowsOf s'.st)) (rowsOf s'.st).length false) := by
        rw [hrl]
        refine .oslF hv.length (by rw [hids]; simp) hA' ?_
        rw [List.drop_zero, List.take_length]
        exact view_rowsL s'.st hv (fun q => q) hvl hrow (fun v hv1 i hi => by rw [hids]; exact List.mem_cons_of_mem _ (List.mem_filterMap.2 ⟨v, hv1, hi⟩))
      refine (hr t H' n' (.tup [.osl A 0 s'.st.length (some s'.st.length), B s'.ok]) (.tup [.ssl (encs c42 (rowsOf s'.st)) (rowsOf s'.st).length false, B s'.ok]) ids (by simp [t4, t5]) (.inr (.inr (.tup (.cons hview (.free rfl))))) ⟨s'.st, s'.ok, rfl, fun e => inv.done hsw e (hmf e), inv.no, by omega, fun j hj => ?_⟩).1
      unfold without
      rw [if_neg (fun hm => by have := hidn j hm; omega), hfr j hj]
    simp
    iterate 4 (try (refine evS_sound (f := 1) ?_; simp))
    refine Stk.loop 4 (fun μ t H' n' => ∃ (role' : Nat → Option Role) (s' : LkS), t 6 = I f.Code.length ∧ t 7 = .own p 0 ∧ p + 1 + 1 ≤ n' ∧ (∀ j, j < n0 → H' j = H0 j) ∧ (∀ j, j < p + 1 + 1 → role' j = role0 p A K j) ∧ Lkr c f p A K role' H' n' s' ∧ InvL f.Code.length S first (stpC c f) s' ∧ Swept S (stpC c f) s' f.Code.length ∧ μ = 2 * mu S s'.st + (if s'.more = true then 1 else 0)) (2 * mu S s3.st + (if s3.more = true then 1 else 0))
      ⟨role3, s3, by simp [t6], by simp [t7], by omega, hfr3, g3, w3, inv3, fun a b => (by rw [hmore3 a] at b; cases b), rfl⟩ ?_
    rintro J hJ μ t H4 n4 ⟨role4, s4, t6, t7, hn4, hfr4, hro4, w4, inv4, hsw4, hμ⟩
    have hp4 := w4.hp
    have hout : (s4.ok = true → s4.more = false) → ∀ t' : Nat → AV, t' 4 = .osl A 0 s4.st.length (some s4.st.length) → t' 5 = B s4.ok → C .ret t' H4 n4 := fun e t' e4 e5 => fin t' H4 n4 role4 s4 e4 e5 hn4 hfr4 hro4 w4 inv4 hsw4 e
    obtain ⟨st4, ok4, more4⟩ := s4
    simp only at hp4 hout hμ
    have hpn4 : p < n4 := by omega
    cases ok4 with
    | false =>
      iterate 24 (try (refine evS_sound (f := 1) ?_; simp [t7, hp4, partOf]))
      refine Stk.rgD [.rd [], .rd [], .rd [], .rd [p], .rd [], .rd [], .rd [], .rd [p], .rd [], .rd []] none (by kernel_rfl) (drawOk2_ren [p] (by simp) 0 [.rd [], .rd [], .rd [], .rd [0], .rd [], .rd [], .rd [], .rd [0], .rd [], .rd []] rfl (by rfl)) rfl (by simp [below]) rfl ?_
      iterate 16 (try (refine evS_sound (f := 1) ?_; simp [t7, hp4, partOf]))
      exact hout (fun e => by cases e) _ (by simp) (by simp)
    | true =>
      cases more4 with
      | false =>
        iterate 30 (try (refine evS_sound (f := 1) ?_; simp [t7, hp4, partOf]))
        refine Stk.rgD [.rd [], .rd [], .rd [], .rd [p], .rd [], .rd [], .rd [], .rd [p], .rd [], .rd []] none (by kernel_rfl) (drawOk2_ren [p] (by simp) 0 [.rd [], .rd [], .rd [], .rd [0], .rd [], .rd [], .rd [], .rd [0], .rd [], .rd []] rfl (by rfl)) rfl (by simp [below]) rfl ?_
        iterate 16 (try (refine evS_sound (f := 1) ?_; simp [t7, hp4, partOf]))
        exact hout (fun _ => rfl) _ (by simp) (by simp)
      | true =>
        simp only [if_true] at hμ
        subst hμ
        iterate 50 (try (refine evS_sound (f := 1) ?_; simp [t7, hp4, partOf, splice]))
        refine Stk.loop 4 (fun μ t H' n' => ∃ (k : Nat) (role' : Nat → Option Role) (s' : LkS), k ≤ f.Code.length ∧ μ = f.Code.length - k ∧ t 6 = I f.Code.length ∧ t 7 = .own p 0 ∧ t 10 = I k ∧ p + 1 + 1 ≤ n' ∧ (∀ j, j < n0 → H' j = H0 j) ∧ (∀ j, j < p + 1 + 1 → role' j = role0 p A K j) ∧ Lkr c f p A K role' H' n' s' ∧ InvL f.Code.length S first (stpC c f) s' ∧ Swept S (stpC c f) s' k ∧ mu S s'.st ≤ mu S st4 ∧ (s'.more = true → mu S s'.st < mu S st4)) f.Code.length
          ⟨0, role4, ⟨st4, true, false⟩, by omega, rfl, by simp [t6], by simp [t7], by simp, hn4, fun j hj => by rw [upd_ne _ _ (by omega), hfr4 j hj], hro4, w4.far (Nat.le_refl _) (by simp) (fun j hj hjp _ => upd_ne _ _ hjp), ⟨inv4.len, inv4.wf, inv4.low, inv4.ent, fun e => (by cases e)⟩, fun a b q x hq => by omega, Nat.le_refl _, fun e => (by cases e)⟩ ?_
        rintro J2 hJ2 μ t H5 n5 ⟨k, role5, s5, hk, rfl, t6, t7, t10, hn5, hfr5, hro5, w5, inv5, hsw5, hmu5, hmo5⟩
        have hp5 := w5.hp
        have hsl5 := w5.sl
        have hsl5 := w5.sl
        have hpn5 : p < n5 := by omega
        have back : Swept S (stpC c f) s5 f.Code.length → ∀ (t' : Nat → AV), t' 6 = I f.Code.length → t' 7 = .own p 0 → ∃ m, m < 2 * mu S st4 + 1 ∧ J m t' H5 n5 := fun hsw t' e6 e7 =>
          ⟨2 * mu S s5.st + (if s5.more = true then 1 else 0), by
            by_cases hm : s5.more = true
            · have := hmo5 hm; simp [hm]; omega
            · simp [hm]; omega, hJ _ _ _ _ ⟨role5, s5, e6, e7, hn5, hfr5, hro5, w5, inv5, hsw, rfl⟩⟩
        by_cases hlt : k < f.Code.length
        · have hlti : (k : Int) < f.Code.length := by omega
          cases hok5 : s5.ok with
          | false =>
            rw [hok5] at hp5
            iterate 40 (try (refine evS_sound (f := 1) ?_; simp [t6, t7, t10, hlti, hlt, hp5, partOf]))
            refine back (fun e => by rw [hok5] at e; cases e) _ (by simp [t6]) (by simp [t7])
          | true =>
            rw [hok5] at hp5
            have wk := wrap_succ k (by omega)
            have hK5 := w5.hK
            obtain ⟨r5, hr5⟩ : ∃ r, s5.st[k]? = some r := ⟨_, List.getElem?_eq_getElem (by omega)⟩
            have hKv : (s5.st.map fun r => B r.isSome)[k]? = some (B r5.isSome) := by rw [List.getElem?_map, hr5]; rfl
            have hkl : k < s5.st.length := by omega
            have hkli : (k : Int) < s5.st.length := by omega
            cases r5 with
            | none =>
              have hKv' : (s5.st.map fun r => B r.isSome)[k]? = some (B false) := hKv
              have hml : k + 1 ≤ (s5.st.map fun r => B r.isSome).length := by rw [List.length_map]; omega
              generalize (s5.st.map fun r => B r.isSome) = ks at hK5 hKv' hml
              iterate 60 (try (refine evS_sound (f := 1) ?_; simp [t6, t7, t10, hlti, hlt, hp5, hkl, hkli, hK5, hKv', partOf, aggK, wk]))
              exact ⟨f.Code.length - (k + 1), by omega, hJ2 _ _ _ _ ⟨k + 1, role5, s5, hlt, rfl, by simp [t6], by simp [t7], by simp, hn5, hfr5, hro5, w5, inv5, hsw5.skip (fun x hx => by rw [hr5] at hx; cases hx), hmu5, hmo5⟩⟩
            | some x =>
              have hKv' : (s5.st.map fun r => B r.isSome)[k]? = some (B true) := hKv
              have hml : k + 1 ≤ (s5.st.map fun r => B r.isSome).length := by rw [List.length_map]; omega
              have hstep := step_L w5 ok inv5.wf hr5
              have fo := (M.stepL_ok (n := f.Code.length) (fst := first) (M.stpC_mono c f) inv5.low hr5).1
              have hswn := Swept.step (M.stpC_mono c f) inv5 hsw5 hr5
              have invn := inv5.fold fo
              have hmun : mu S (M.stepL S (stpC c f) s5 k x).st ≤ mu S st4 := Nat.le_trans fo.mle hmu5
              have hmon : (M.stepL S (stpC c f) s5 k x).more = true → mu S (M.stepL S (stpC c f) s5 k x).st < mu S st4 := fun e => by
                rcases fo.less e with h | h
                · exact Nat.lt_of_le_of_lt fo.mle (hmo5 h)
                · exact Nat.lt_of_lt_of_le h hmu5
              generalize (s5.st.map fun r => B r.isSome) = ks at hK5 hKv' hml
              generalize M.stepL S (stpC c f) s5 k x = s6 at hstep invn hswn hmun hmon
              iterate 60 (try (refine evS_sound (f := 1) ?_; simp [t6, t7, t10, hlti, hlt, hp5, hkl, hkli, hK5, hKv', partOf, aggK]))
              refine Stk.callS 1 hstep rfl rfl rfl (by simp) ?_
              rintro v H6 n6 ⟨rfl, hn6, hk6, role6, hr6, w6⟩
              simp
              iterate 20 (try (refine evS_sound (f := 1) ?_; simp [t10, wk]))
              exact ⟨f.Code.length - (k + 1), by omega, hJ2 _ _ _ _ ⟨k + 1, role6, s6, hlt, rfl, by simp [t6], by simp [t7], by simp, by omega, fun j hj => by rw [hk6 j (by omega) (by rw [hro5 j (by omega), rn j (by omega)]), hfr5 j hj], fun j hj => by rw [hr6 j (by omega), hro5 j hj], w6, invn, hswn, hmun, hmon⟩⟩
        · have hke : k = f.Code.length := by omega
          subst hke
          iterate 40 (try (refine evS_sound (f := 1) ?_; simp [t6, t7, t10, hp5, partOf]))
          exact back hsw5 _ (by simp [t6]) (by simp [t7])
end Go.Proofs.Ytcdafogfmijcpaa.Flo
