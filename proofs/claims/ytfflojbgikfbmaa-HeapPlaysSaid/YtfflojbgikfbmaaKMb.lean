import Derived.Test.YtfflojbgikfbmaaKMa
/-
  The heap: words as places and as heads.
-/
namespace Go.Proofs.Ytfflojbgikfbmaa.Hea
open Go.Proofs.YtfflojbgikfbmaaW.Ah
open Go.Proofs.Ytfflojbgikfbmaa.Sta (U Er eU wrap_nsub wrap_pred load_u)
set_option maxRecDepth 4000
set_option linter.unusedVariables false
set_option linter.unusedSimpArgs false
attribute [local simp] T.t3 T.t4 T.t5 T.t26 T.t34 T.t39 T.t40 T.t62 T.t63 T.t70 T.t93 T.t144 Op.maxDepth List.range List.range.loop
attribute [-simp] appendAV cellsOf cellOk partOk
attribute [local simp] cellsOf_sc cellOk_sc partOk_sc cellsOf_own cellOk_own partOk_own cellsOf_osl cellOk_osl partOk_osl cellsOf_sh cellOk_sh partOk_sh cellsOf_ssl cellOk_ssl partOk_ssl cellsOf_esl cellOk_esl partOk_esl cellsOf_fn cellOk_fn partOk_fn cellsOf_omap cellOk_omap partOk_omap cellsOf_agg partOk_agg cellsOf_slv cellOk_slv partOk_slv

/-- A word's place. -/
def place (w : Int) : Option Nat := if w % 2 = 1 ∨ ¬ (0 ≤ w ∧ w < 8589934592) ∨ w = 0 then none else some (w / 2).toNat

theorem and_one (w : Int) : IntKind.u64.wrap (((w % 2 ^ IntKind.u64.bits).toNat &&& 1 % 2 ^ IntKind.u64.bits : Nat) : Int) = w % 2 := by
  have e : (1 % 2 ^ IntKind.u64.bits : Nat) = 1 := by decide
  rw [e, Nat.and_one_is_mod]
  have e2 : (w % 2 ^ IntKind.u64.bits).toNat % 2 = (w % 2).toNat := by
    show (w % 18446744073709551616).toNat % 2 = (w % 2).toNat
    omega
  rw [e2, wrapu64_id (by omega) (by omega)]
  omega

theorem and_mask (a m : Nat) (hm : m ≤ 60) (ha : a < 18446744073709551616) : IntKind.u64.wrap ((a % 2 ^ IntKind.u64.bits &&& (2 ^ m - 1) % 2 ^ IntKind.u64.bits : Nat) : Int) = ((a % 2 ^ m : Nat) : Int) := by
  have hp : 2 ^ m ≤ 2 ^ 60 := Nat.pow_le_pow_right (by decide) hm
  have hp0 : 0 < 2 ^ m := Nat.pow_pos (by decide)
  have e1 : (2 ^ m - 1) % 2 ^ IntKind.u64.bits = 2 ^ m - 1 := Nat.mod_eq_of_lt (by show 2 ^ m - 1 < 18446744073709551616; omega)
  have e2 : a % 2 ^ IntKind.u64.bits = a := Nat.mod_eq_of_lt (by show a < 18446744073709551616; omega)
  rw [e1, e2, Nat.and_two_pow_sub_one_eq_mod, wrapu64_id (by omega) (by have := Nat.mod_lt a hp0; omega)]

theorem atF (w : Int) : RunF Try.prog T.T 142 [U w] (.tup [.sc (.int .u32 ((place w).getD 0 : Nat)), B (place w).isSome]) := by
  refine RunF.ev 999 Try.func142 rfl rfl rfl rfl rfl fun C hr hn => ?_
  have f1 : w.fdiv (2 ^ min 33 IntKind.u64.bits) = w / 8589934592 := by
    show w.fdiv 8589934592 = _
    exact Int.fdiv_eq_ediv_of_nonneg _ (by omega)
  have f2 : w.fdiv (2 ^ min 1 IntKind.u64.bits) = w / 2 := by
    show w.fdiv 2 = _
    exact Int.fdiv_eq_ediv_of_nonneg _ (by omega)
  by_cases h1 : w % 2 = 1
  · have hb : (w % 2 == 1) = true := by simp [h1]
    have hp : place w = none := by unfold place; rw [if_pos (.inl h1)]
    simp [and_one, hb]
    exact hr _ _ _ (by simp [hp])
  · have hb : (w % 2 == 1) = false := by simp; omega
    by_cases h2 : 0 ≤ w ∧ w < 8589934592
    · have hd : (w / 8589934592 != 0) = false := by simp; omega
      by_cases h3 : w = 0
      · have hp : place w = none := by unfold place; rw [if_pos (.inr (.inr h3))]
        have h3b : (w == 0) = true := by simp [h3]
        simp [and_one, hb, f1, hd, h3b]
        exact hr _ _ _ (by simp [hp])
      · have h3b : (w == 0) = false := by simp [h3]
        have hp : place w = some (w / 2).toNat := by unfold place; rw [if_neg (by omega)]
        have e4 : IntKind.u32.wrap (w / 2) = w / 2 := wrapu32_id (by omega) (by omega)
        simp [and_one, hb, f1, f2, hd, h3b, e4]
        exact hr _ _ _ (by simp [hp]; omega)
    · have hd : (w / 8589934592 != 0) = true := by simp; omega
      have hp : place w = none := by unfold place; rw [if_pos (.inr (.inl h2))]
      simp [and_one, hb, f1, hd]
      exact hr _ _ _ (by simp [hp])

def rk (w : Int) : Int := IntKind.i64.wrap (IntKind.u64.wrap (((IntKind.u64.wrap (w.tdiv 65536) % 2 ^ IntKind.u64.bits).toNat &&& 15 % 2 ^ IntKind.u64.bits : Nat) : Int))
def rt (w : Int) : Int := IntKind.i64.wrap (IntKind.u64.wrap (((IntKind.u64.wrap (w.tdiv 256) % 2 ^ IntKind.u64.bits).toNat &&& 255 % 2 ^ IntKind.u64.bits : Nat) : Int))
def rc (w : Int) : Int := IntKind.i64.wrap (IntKind.u64.wrap (((w % 2 ^ IntKind.u64.bits).toNat &&& 255 % 2 ^ IntKind.u64.bits : Nat) : Int))

theorem toNat_mod (a : Nat) : ((a : Int) % 2 ^ IntKind.u64.bits).toNat = a % 2 ^ IntKind.u64.bits := by
  show ((a : Int) % 18446744073709551616).toNat = a % 18446744073709551616
  omega

theorem r_in (w : Int) (h0 : 0 ≤ w) (h1 : w < 1048576) : rk w = w / 65536 ∧ rt w = w / 256 % 256 ∧ rc w = w % 256 := by
  obtain ⟨a, rfl⟩ := Int.eq_ofNat_of_zero_le h0
  have d1 : (a : Int).tdiv 65536 = (a / 65536 : Nat) := rfl
  have d2 : (a : Int).tdiv 256 = (a / 256 : Nat) := rfl
  have m1 := and_mask (a / 65536) 4 (by decide) (by omega)
  have m2 := and_mask (a / 256) 8 (by decide) (by omega)
  have m3 := and_mask a 8 (by decide) (by omega)
  simp only [show (2 : Nat) ^ 4 - 1 = 15 from rfl, show (2 : Nat) ^ 4 = 16 from rfl] at m1
  simp only [show (2 : Nat) ^ 8 - 1 = 255 from rfl, show (2 : Nat) ^ 8 = 256 from rfl] at m2 m3
  refine ⟨?_, ?_, ?_⟩
  · unfold rk
    rw [d1, wrapu64_id (x := ((a / 65536 : Nat) : Int)) (by omega) (by omega), toNat_mod, m1, wrap64_id (by omega) (by omega)]; omega
  · unfold rt
    rw [d2, wrapu64_id (x := ((a / 256 : Nat) : Int)) (by omega) (by omega), toNat_mod, m2, wrap64_id (by omega) (by omega)]; omega
  · unfold rc
    rw [toNat_mod, m3, wrap64_id (by omega) (by omega)]; omega

/-- What a word says of a record. -/
def rd (w : Int) : Option (Int × Int × Int) := if 0 ≤ w ∧ w < 1048576 ∧ Can (w / 65536) (w / 256 % 256) (w % 256) then some (w / 65536, w / 256 % 256, w % 256) else none

def rdV (w : Int) : AV := match rd w with
  | some x => .tup [hd x.1 x.2.1 x.2.2, B true]
  | none => .tup [hd 0 0 0, B false]

theorem readF (w : Int) : RunF Try.prog T.T 57 [U w] (rdV w) := by
  refine RunF.ev 999 Try.func57 rfl rfl rfl rfl rfl fun C hr hn => ?_
  simp
  refine Stk.callF 999 (headF (rk w) (rt w) (rc w)) rfl rfl rfl (by simp [rk, rt, rc]) rfl rfl ?_
  by_cases hc : Can (rk w) (rt w) (rc w)
  · by_cases he : hv (rk w) (rt w) (rc w) = w
    · have hin : 0 ≤ w ∧ w < 1048576 := by rw [← he]; unfold hv; unfold Can at hc; omega
      obtain ⟨g1, g2, g3⟩ := r_in w hin.1 hin.2
      have hrd : rd w = some (w / 65536, w / 256 % 256, w % 256) := by unfold rd; rw [if_pos ⟨hin.1, hin.2, by rw [← g1, ← g2, ← g3]; exact hc⟩]
      have heb : (w != w) = false := by simp
      rw [g1, g2, g3] at hc he
      have h' : IntKind.i64.wrap (IntKind.u64.wrap (((IntKind.u64.wrap (w.tdiv 65536) % 2 ^ IntKind.u64.bits).toNat &&& 15 % 2 ^ IntKind.u64.bits : Nat) : Int)) = w / 65536 := g1
      have h'' : IntKind.i64.wrap (IntKind.u64.wrap (((IntKind.u64.wrap (w.tdiv 256) % 2 ^ IntKind.u64.bits).toNat &&& 255 % 2 ^ IntKind.u64.bits : Nat) : Int)) = w / 256 % 256 := g2
      have h3 : IntKind.i64.wrap (IntKind.u64.wrap (((w % 2 ^ IntKind.u64.bits).toNat &&& 255 % 2 ^ IntKind.u64.bits : Nat) : Int)) = w % 256 := g3
      simp [g1, g2, g3, hc, he, partOf]
      exact hr _ _ _ (by simp [rdV, hrd, partOf, h', h'', h3])
    · have hrd : rd w = none := by
        unfold rd
        rw [if_neg]
        rintro ⟨h0, h1, h2⟩
        obtain ⟨g1, g2, g3⟩ := r_in w h0 h1
        rw [g1, g2, g3] at he
        apply he; unfold hv; omega
      have heb : (hv (rk w) (rt w) (rc w) != w) = true := by simp [he]
      simp [hc, heb]
      exact hr _ _ _ (by simp [rdV, hrd, partOf])
  · have hrd : rd w = none := by
      unfold rd
      rw [if_neg]
      rintro ⟨h0, h1, h2⟩
      obtain ⟨g1, g2, g3⟩ := r_in w h0 h1
      rw [g1, g2, g3] at hc
      exact hc h2
    simp [hc]
    exact hr _ _ _ (by simp [rdV, hrd, partOf])
end Go.Proofs.Ytfflojbgikfbmaa.Hea

/-
  The heap: a word's record.
-/
namespace Go.Proofs.Ytfflojbgikfbmaa.Hea
open Go.Proofs.YtfflojbgikfbmaaW.Ah
open Go.Proofs.Ytfflojbgikfbmaa.Sta (U Er eU wrap_nsub wrap_pred load_u)
set_option maxRecDepth 4000
set_option linter.unusedVariables false
set_option linter.unusedSimpArgs false
attribute [local simp] T.t3 T.t4 T.t5 T.t26 T.t34 T.t39 T.t40 T.t62 T.t63 T.t70 T.t93 T.t144 Op.maxDepth List.range List.range.loop
attribute [-simp] appendAV cellsOf cellOk partOk
attribute [local simp] cellsOf_sc cellOk_sc partOk_sc cellsOf_own cellOk_own partOk_own cellsOf_osl cellOk_osl partOk_osl cellsOf_sh cellOk_sh partOk_sh cellsOf_ssl cellOk_ssl partOk_ssl cellsOf_esl cellOk_esl partOk_esl cellsOf_fn cellOk_fn partOk_fn cellsOf_omap cellOk_omap partOk_omap cellsOf_agg partOk_agg cellsOf_slv cellOk_slv partOk_slv

/-- A word's place in a heap. -/
def Hp.pl (h : Hp) (w : Int) : Option Nat := match place w with
  | some a => if a ≤ 2 * h.half then some a else none
  | none => none
/-- The words from a place on. -/
def Hp.span (h : Hp) (a : Nat) : Nat := if a ≤ h.half then h.half + 1 - a else 2 * h.half + 1 - a
def Hp.capT (h : Hp) (c : Option Nat) (a : Nat) : Option Nat := if a ≤ h.half then some (h.half + 1 - a) else c.map (· - a)
def fromV (h : Hp) (i : Nat) (c : Option Nat) : Option Nat → AV
  | some a => .osl i a (h.span a) (h.capT c a)
  | none => .sc (.slice none 0 0)

theorem place_lt {w : Int} {a : Nat} (h : place w = some a) : 1 ≤ a ∧ a < 4294967296 ∧ w = ((2 * a : Nat) : Int) := by
  unfold place at h
  split at h
  · cases h
  · cases h; omega

theorem fromQ {H : Mem} {n p i : Nat} {c : Option Nat} {h : Hp} (s : St H n p i c h) (w : Int) :
    RunQ Try.prog T.T 114 [.own p 0, U w] H n (fun r H' n' => r = fromV h i c (h.pl w) ∧ H' = H ∧ n' = n) := by
  have hp := s.hp
  have hlp := s.lp
  have hok := s.ok
  have hhi := hok.hi
  have hlen := hok.len
  have hwo := s.hw
  have w2 : IntKind.i64.wrap (2 * (h.half : Int)) = 2 * (h.half : Int) := wrap64_id (by omega) (by omega)
  have w3 := wrap_succ h.half (by omega)
  refine RunQ.ev 999 Try.func114 rfl rfl rfl rfl rfl fun C hr hn => ?_
  simp
  refine Stk.callF 999 (atF w) rfl rfl rfl (by simp) rfl rfl ?_
  cases hpl : place w with
  | none =>
    have w0 : IntKind.i64.wrap 0 = 0 := by decide
    simp [hpl, w0]
    exact hr _ _ _ (.sc (.slice none 0 0)) (by simp) ⟨by simp [Hp.pl, hpl, fromV], rfl, rfl⟩
  | some a =>
    obtain ⟨ha1, ha2, _⟩ := place_lt hpl
    have w1 : IntKind.i64.wrap (a : Int) = a := wrap64_id (by omega) (by omega)
    by_cases h1 : a ≤ 2 * h.half
    · have h1' : ¬ (2 * (h.half : Int) < a) := by omega
      have h1n : ¬ (2 * h.half < a) := by omega
      have hpl2 : h.pl w = some a := by simp [Hp.pl, hpl, h1]
      by_cases h2 : a ≤ h.half
      · have h2' : (a : Int) ≤ h.half := by omega
        have q1 : h.half + 1 ≤ 2 * h.half + 1 := by omega
        have q1' : (h.half : Int) + 1 ≤ 2 * (h.half : Int) + 1 := by omega
        have q2 : a ≤ h.half + 1 := by omega
        have q3 : a < h.half + 1 := by omega
        have ha0 : ¬ a = 0 := by omega
        have hcl : (2 * h.half + 1) / 1 = 2 * h.half + 1 := by omega
        obtain ⟨e, he⟩ : ∃ e, e = h.half + 1 := ⟨_, rfl⟩
        rw [← he] at w3 q1 q2 q3
        have q1' : (e : Int) ≤ 2 * (h.half : Int) + 1 := by omega
        have fin : ∀ (t : Nat → AV), t 4 = .osl i a (e - a) (some (e - a)) → C .ret t H n := by
          intro t t4
          exact hr _ _ _ (.osl i a (e - a) (some (e - a))) (by simp [t4]) ⟨by simp [hpl2, fromV, Hp.span, Hp.capT, h2, he], rfl, rfl⟩
        rcases s.hc with rfl | rfl
        all_goals simp [hpl, w1, hp, w2, h1', h1n, h2, h2']
        all_goals refine Stk.regionD 999 [.rd [], .rd [], .rd [], .rd [], .rd [p], .rd [], .rd [], .rd [], .rd [], .rd [], .rd [p], .rd [], .rd [], .rd [], .rd [], .rd [], .rd [p], .rd [], .rd [i], .rd []] none (by kernel_rfl) (by rfl) rfl (by simp [below, *]) rfl ?_
        all_goals simp [hp, w3, natOk, hwo, hlen, q1, q1', q2, q3]
        all_goals exact fin _ (by simp)
      · have h2' : ¬ (a : Int) ≤ h.half := by omega
        have q1 : a ≤ 2 * h.half + 1 := by omega
        have q3 : a < 2 * h.half + 1 := by omega
        have q1i : (a : Int) ≤ 2 * (h.half : Int) + 1 := by omega
        have fin : ∀ (t : Nat → AV), t 4 = .osl i a (2 * h.half + 1 - a) (c.map (· - a)) → C .ret t H n := by
          intro t t4
          exact hr _ _ _ (.osl i a (2 * h.half + 1 - a) (c.map (· - a))) (by simp [t4]) ⟨by simp [hpl2, fromV, Hp.span, Hp.capT, h2], rfl, rfl⟩
        rcases s.hc with rfl | rfl
        all_goals simp [hpl, w1, hp, w2, h1', h1n, h2, h2', natOk, hwo, hlen, q1, q3, q1i]
        all_goals exact fin _ (by simp)
    · have h1' : (2 * (h.half : Int) < a) := by omega
      have h1n : (2 * h.half < a) := by omega
      simp [hpl, w1, hp, w2, h1', h1n]
      exact hr _ _ _ (.sc (.slice none 0 0)) (by simp) ⟨by simp [Hp.pl, hpl, fromV, h1], rfl, rfl⟩

theorem ldw {ws : List Int} {k : Nat} (h : k < ws.length) : partOf T.T 40 (encs eU ws) k = some (U (ws.getD k 0)) := by
  simp [partOf, encs_map, h]

theorem lim_ok {H : Mem} {n p i : Nat} {c : Option Nat} {h : Hp} (s : St H n p i c h) {b : Nat} (hb : b ≤ 2 * h.half) (h1 : 1 ≤ b) : limOf H 40 1 i b (h.span b) (h.capT c b) = h.span b ∧ natOk H 40 i (h.capT c b) = true := by
  have hwo := s.hw
  have hlen := s.ok.len
  unfold Hp.capT Hp.span
  by_cases h2 : b ≤ h.half
  · simp [h2, limOf, natOk]
  · rcases s.hc with rfl | rfl
    · simp [h2, limOf, natOk, hwo, hlen]
    · simp [h2, limOf, natOk]

theorem drawOk2_swap {i n : Nat} (h : i ≠ n) (G : Array Oper) (q : Option Nat) (hd : drawOk2 G [.rd [n + 1], .rd [], .rd [], .rd [], .rd [], .mem [n] (n + 2), .rd [], .rd []] q = true) : drawOk2 G [.rd [n + 1], .rd [], .rd [], .rd [], .rd [i], .mem [n] (n + 2), .rd [], .rd []] q = true := by
  have hb : ([n] : List Nat).contains i = false := by simp [h]
  have key : ∀ a b : Nat, Cls.indep' ([Cls.rd [n + 1], .rd [], .rd [], .rd [], .rd [i], .mem [n] (n + 2), .rd [], .rd []] : List Cls)[a]? ([Cls.rd [n + 1], .rd [], .rd [], .rd [], .rd [i], .mem [n] (n + 2), .rd [], .rd []] : List Cls)[b]? = Cls.indep' ([Cls.rd [n + 1], .rd [], .rd [], .rd [], .rd [], .mem [n] (n + 2), .rd [], .rd []] : List Cls)[a]? ([Cls.rd [n + 1], .rd [], .rd [], .rd [], .rd [], .mem [n] (n + 2), .rd [], .rd []] : List Cls)[b]? := by
    intro a b
    have e : ∀ (x : Nat), ([Cls.rd [n + 1], .rd [], .rd [], .rd [], .rd [i], .mem [n] (n + 2), .rd [], .rd []] : List Cls)[x]? = ([Cls.rd [n + 1], .rd [], .rd [], .rd [], .rd [], .mem [n] (n + 2), .rd [], .rd []] : List Cls)[x]? ∨ x = 4 := by
      intro x
      match x with
      | 0 | 1 | 2 | 3 | 5 | 6 | 7 => exact .inl rfl
      | 4 => exact .inr rfl
      | x + 8 => exact .inl rfl
    have f : ∀ (x : Nat), (∃ R, ([Cls.rd [n + 1], .rd [], .rd [], .rd [], .rd [], .mem [n] (n + 2), .rd [], .rd []] : List Cls)[x]? = some (.rd R)) ∨ ([Cls.rd [n + 1], .rd [], .rd [], .rd [], .rd [], .mem [n] (n + 2), .rd [], .rd []] : List Cls)[x]? = some (.mem [n] (n + 2)) ∨ ([Cls.rd [n + 1], .rd [], .rd [], .rd [], .rd [], .mem [n] (n + 2), .rd [], .rd []] : List Cls)[x]? = none := by
      intro x
      match x with
      | 0 => exact .inl ⟨_, rfl⟩
      | 1 => exact .inl ⟨_, rfl⟩
      | 2 => exact .inl ⟨_, rfl⟩
      | 3 => exact .inl ⟨_, rfl⟩
      | 4 => exact .inl ⟨_, rfl⟩
      | 5 => exact .inr (.inl rfl)
      | 6 => exact .inl ⟨_, rfl⟩
      | 7 => exact .inl ⟨_, rfl⟩
      | x + 8 => exact .inr (.inr rfl)
    rcases e a with ea | rfl
    · rcases e b with eb | rfl
      · rw [ea, eb]
      · rw [ea]
        rcases f a with ⟨R, fa⟩ | fa | fa <;> rw [fa] <;> simp [Cls.indep', h]
    · rcases e b with eb | rfl
      · rw [eb]
        rcases f b with ⟨R, fb⟩ | fb | fb <;> rw [fb] <;> simp [Cls.indep', h]
      · simp [Cls.indep']
  have key2 : ∀ a b, indep2 G [.rd [n + 1], .rd [], .rd [], .rd [], .rd [i], .mem [n] (n + 2), .rd [], .rd []] a b = indep2 G [.rd [n + 1], .rd [], .rd [], .rd [], .rd [], .mem [n] (n + 2), .rd [], .rd []] a b := by
    intro a b; unfold indep2; rw [key a b]
  have key3 : ∀ a b, pairOk2 G [.rd [n + 1], .rd [], .rd [], .rd [], .rd [i], .mem [n] (n + 2), .rd [], .rd []] q a b = pairOk2 G [.rd [n + 1], .rd [], .rd [], .rd [], .rd [], .mem [n] (n + 2), .rd [], .rd []] q a b := by
    intro a b; unfold pairOk2 barrier2; simp only [key2]
  unfold drawOk2 at hd ⊢
  simp only [key3]
  exact hd

/-- A word's record: its place and its head. -/
def Hp.recAt (h : Hp) (w : Int) : Option (Nat × Int × Int × Int) := match h.pl w with
  | none => none
  | some a => if h.span a < 2 then none else
    match h.pl (h.ws.getD (a + 1) 0) with
    | none => none
    | some b => if h.span b < 2 then none else
      match rd (h.ws.getD b 0) with
      | none => none
      | some x => if size x.1 x.2.1 x.2.2 ≤ h.span b then some (b, x) else none

def recV (i : Nat) : Option (Nat × Int × Int × Int) → AV
  | some (b, x) => .tup [hd x.1 x.2.1 x.2.2, .osl i b (size x.1 x.2.1 x.2.2) (some (size x.1 x.2.1 x.2.2)), B true]
  | none => .tup [hd 0 0 0, .sc (.slice none 0 0), B false]

theorem pl_le {h : Hp} {w : Int} {a : Nat} (hp : h.pl w = some a) : 1 ≤ a ∧ a ≤ 2 * h.half ∧ w = ((2 * a : Nat) : Int) := by
  unfold Hp.pl at hp
  split at hp
  · rename_i b hb
    split at hp
    · cases hp; have := place_lt hb; exact ⟨this.1, by assumption, this.2.2⟩
    · cases hp
  · cases hp

theorem span_le {h : Hp} {a : Nat} (ha : a ≤ 2 * h.half) : a + h.span a ≤ 2 * h.half + 1 := by unfold Hp.span; split <;> omega

theorem rd_can {w : Int} {x : Int × Int × Int} (h : rd w = some x) : Can x.1 x.2.1 x.2.2 ∧ w = hv x.1 x.2.1 x.2.2 := by
  unfold rd at h
  split at h
  · rename_i hc; cases h; refine ⟨hc.2.2, ?_⟩; unfold hv; simp only; omega
  · cases h

theorem recQ {H : Mem} {n p i : Nat} {c : Option Nat} {h : Hp} (s : St H n p i c h) (w : Int) :
    RunQ Try.prog T.T 113 [.own p 0, U w] H n (fun r H' n' => r = recV i (h.recAt w) ∧ Calm H n H' n') := by
  have hok := s.ok
  have hhi := hok.hi
  have hlen := hok.len
  obtain ⟨Z, hZ⟩ : ∃ Z : Mem, Z = upd H n (some (.cells [.sc (.int .i64 0), .sc (.int .i64 0), .sc (.int .i64 0)] 34)) := ⟨_, rfl⟩
  have hc0 : Calm H n Z (n + 1) := ⟨by omega, fun j hj => by rw [hZ, upd_ne _ _ (by omega)]⟩
  have s0 : St Z (n + 1) p i c h := s.far hc0.1 hc0.2
  have z0 : Z n = some (.cells [.sc (.int .i64 0), .sc (.int .i64 0), .sc (.int .i64 0)] 34) := by rw [hZ, upd_same]
  refine RunQ.ev 999 Try.func113 rfl rfl rfl rfl rfl fun C hr hn => ?_
  simp
  rw [← hZ]
  have fail : h.recAt w = none → ∀ (t : Nat → AV) H2 n2, t 4 = .own n 0 → t 5 = .sc (.slice none 0 0) → t 6 = B false → H2 n = some (.cells [I 0, I 0, I 0] 34) → Calm H n H2 n2 → C .ret t H2 n2 := by
    intro hrec t H2 n2 g4 g5 g6 g g'
    exact hr _ _ _ (recV i none) (by simp [g4, g5, g6, g, partOf, recV]) ⟨by rw [hrec], g'⟩
  refine Stk.callS 999 (fromQ s0 w) rfl rfl rfl (by simp) ?_
  rintro v H1 n1 ⟨rfl, rfl, rfl⟩
  cases hpl : h.pl w with
  | none =>
    simp [fromV, z0]
    refine fail (by simp [Hp.recAt, hpl]) _ _ _ (by simp) (by simp) (by simp) (by simp) ⟨hc0.1, fun j hj => by rw [upd_ne _ _ (by omega), hc0.2 j hj]⟩
  | some a =>
    obtain ⟨a1, a2, _⟩ := pl_le hpl
    have hsp := span_le a2
    by_cases hs : h.span a < 2
    · have hsi : (h.span a : Int) < 2 := by omega
      simp [fromV, hs, hsi, z0]
      refine fail (by simp [Hp.recAt, hpl, hs]) _ _ _ (by simp) (by simp) (by simp) (by simp) ⟨hc0.1, fun j hj => by rw [upd_ne _ _ (by omega), hc0.2 j hj]⟩
    · have hsi : ¬ (h.span a : Int) < 2 := by omega
      have h1s : 1 < h.span a := by omega
      have hl1 := ldw (ws := h.ws) (k := a + 1) (by omega)
      obtain ⟨u, hu⟩ : ∃ u, u = h.ws.getD (a + 1) 0 := ⟨_, rfl⟩
      rw [← hu] at hl1
      have hwo := s0.hw
      have h1si : (1 : Int) < h.span a := by omega
      simp [fromV, hs, hsi, h1s, h1si, hwo, hl1]
      refine Stk.callS 999 (fromQ s0 u) rfl rfl rfl (by simp) ?_
      rintro v H1 n1 ⟨rfl, rfl, rfl⟩
      cases hpl2 : h.pl u with
      | none =>
        simp [fromV, z0]
        refine fail (by simp only [Hp.recAt, hpl, hs, if_false, ← hu, hpl2]) _ _ _ (by simp) (by simp) (by simp) (by simp) ⟨hc0.1, fun j hj => by rw [upd_ne _ _ (by omega), hc0.2 j hj]⟩
      | some b =>
        obtain ⟨b1, b2, _⟩ := pl_le hpl2
        have hsp2 := span_le b2
        by_cases ht : h.span b < 2
        · have hti : (h.span b : Int) < 2 := by omega
          simp [fromV, ht, hti, z0]
          refine fail (by simp only [Hp.recAt, hpl, hs, if_false, ← hu, hpl2, ht, if_true]) _ _ _ (by simp) (by simp) (by simp) (by simp) ⟨hc0.1, fun j hj => by rw [upd_ne _ _ (by omega), hc0.2 j hj]⟩
        · have hti : ¬ (h.span b : Int) < 2 := by omega
          have h0t : 0 < h.span b := by omega
          have hl2 := ldw (ws := h.ws) (k := b) (by omega)
          obtain ⟨y, hy⟩ : ∃ y, y = h.ws.getD b 0 := ⟨_, rfl⟩
          rw [← hy] at hl2
          have h0ti : (0 : Int) < h.span b := by omega
          simp [fromV, ht, hti, h0t, h0ti, hwo, hl2]
          refine Stk.callF 999 (readF y) rfl rfl rfl (by simp) rfl (by unfold rdV; split <;> rfl) ?_
          obtain ⟨hlim, hnat⟩ := lim_ok s0 b2 b1
          cases hrd : rd y with
          | none =>
            have hz : size 0 0 0 = 0 := by decide
            simp [rdV, hrd, partOf]
            refine Stk.callF 999 (sizeF 0 0 0) rfl rfl rfl (by simp) rfl rfl ?_
            simp [hz, z0, partOf]
            refine fail (by simp only [Hp.recAt, hpl, hs, if_false, ← hu, hpl2, ht, ← hy, hrd]) _ _ _ (by simp) (by simp) (by simp) (by simp) ⟨by omega, fun j hj => by rw [upd_ne _ _ (by omega), upd_ne _ _ (by omega), upd_ne _ _ (by omega), hc0.2 j hj]⟩
          | some x =>
            obtain ⟨hcan, hyx⟩ := rd_can hrd
            have hsz := size_can hcan
            obtain ⟨sz, hsz'⟩ : ∃ sz, sz = size x.1 x.2.1 x.2.2 := ⟨_, rfl⟩
            simp [rdV, hrd, partOf]
            refine Stk.callF 999 (sizeF x.1 x.2.1 x.2.2) rfl rfl rfl (by simp) rfl rfl ?_
            rw [← hsz']
            by_cases hfit : sz ≤ h.span b
            · have hfi : (sz : Int) ≤ h.span b := by omega
              simp [hfit, hfi]
              have hin : i ≠ n := by have := s.li; omega
              have hin1 : i ≠ n + 1 := by have := s.li; omega
              have hin2 : i < n + 2 := by have := s.li; omega
              have hsp3 : sz ≤ h.span b := hfit
              obtain ⟨Z2, hZ2⟩ : ∃ Z2 : Mem, Z2 = upd (upd H1 (n + 1) (some (.cells [.sc (.int .i64 0), .sc (.int .i64 0), .sc (.int .i64 0)] 34))) (n + 1) (some (.cells [I x.1, I x.2.1, I x.2.2] 34)) := ⟨_, rfl⟩
              have z2i : Z2 i = some (.cells (encs eU h.ws) 40) := by rw [hZ2, upd_ne _ _ hin1, upd_ne _ _ hin1, hwo]
              have z2x : Z2 (n + 1) = some (.cells [I x.1, I x.2.1, I x.2.2] 34) := by rw [hZ2, upd_same]
              have z2n : Z2 n = some (.cells [I 0, I 0, I 0] 34) := by rw [hZ2, upd_ne _ _ (by omega), upd_ne _ _ (by omega), z0]
              have hc2 : Calm H n Z2 (n + 2) := ⟨by omega, fun j hj => by rw [hZ2, upd_ne _ _ (by omega), upd_ne _ _ (by omega), hc0.2 j hj]⟩
              obtain ⟨hlim, hnat⟩ := lim_ok (s.far hc2.1 hc2.2) b2 b1
              rw [← hZ2]
              refine Stk.regionD 999 [.rd [n + 1], .rd [], .rd [], .rd [], .rd [i], .mem [n] (n + 2), .rd [], .rd []] none (by kernel_rfl) (drawOk2_swap hin _ _ (by rfl)) rfl (by simp [below, hin2]) rfl ?_
              simp [-natOk, -limOf, z2x, z2n, hnat, hlim, partOf, hsp3]
              refine ⟨fun j hj hj' e => absurd e hj', ?_⟩
              refine hr _ _ _ (recV i (some (b, x))) (by simp [recV, partOf, hsz']) ⟨?_, by omega, fun j hj => by rw [upd_ne _ _ (by omega), hc2.2 j hj]⟩
              simp only [Hp.recAt, hpl, hs, if_false, ← hu, hpl2, ht, ← hy, hrd, ← hsz', hfit, if_true]
            · have hfi : ¬ (sz : Int) ≤ h.span b := by omega
              simp [hfit, hfi, z0]
              refine fail (by simp only [Hp.recAt, hpl, hs, if_false, ← hu, hpl2, ht, ← hy, hrd, ← hsz', hfit]) _ _ _ (by simp) (by simp) (by simp) (by simp) ⟨by omega, fun j hj => by rw [upd_ne _ _ (by omega), upd_ne _ _ (by omega), upd_ne _ _ (by omega), hc0.2 j hj]⟩
end Go.Proofs.Ytfflojbgikfbmaa.Hea

/-
  The heap: fields of a record; the statements' own small check.
-/
namespace Go.Proofs.Ytfflojbgikfbmaa.Hea
open Go.Proofs.YtfflojbgikfbmaaW.Ah
open Go.Proofs.Ytfflojbgikfbmaa.Sta (U Er eU wrap_nsub wrap_pred load_u)
set_option maxRecDepth 4000
set_option linter.unusedVariables false
set_option linter.unusedSimpArgs false
attribute [local simp] T.t3 T.t4 T.t5 T.t26 T.t34 T.t39 T.t40 T.t62 T.t63 T.t70 T.t93 T.t144 Op.maxDepth List.range List.range.loop
attribute [-simp] appendAV cellsOf cellOk partOk
attribute [local simp] cellsOf_sc cellOk_sc partOk_sc cellsOf_own cellOk_own partOk_own cellsOf_osl cellOk_osl partOk_osl cellsOf_sh cellOk_sh partOk_sh cellsOf_ssl cellOk_ssl partOk_ssl cellsOf_esl cellOk_esl partOk_esl cellsOf_fn cellOk_fn partOk_fn cellsOf_omap cellOk_omap partOk_omap cellsOf_agg partOk_agg cellsOf_slv cellOk_slv partOk_slv

def fieldsV (i : Nat) (k : Int) : Option (Nat × Int × Int × Int) → AV
  | none => .tup [.sc (.slice none 0 0), Er 22]
  | some (b, x) => if x.1 = 0 then (if 0 ≤ k ∧ k < x.2.2 then .tup [.osl i (b + 2) (size x.1 x.2.1 x.2.2 - 2) (some (size x.1 x.2.1 x.2.2 - 2)), Er 0] else .tup [.sc (.slice none 0 0), Er 20]) else .tup [.sc (.slice none 0 0), Er 22]

theorem fieldsQ {H : Mem} {n p i : Nat} {c : Option Nat} {h : Hp} (s : St H n p i c h) (w k : Int) :
    RunQ Try.prog T.T 116 [.own p 0, U w, I k] H n (fun r H' n' => r = fieldsV i k (h.recAt w) ∧ Calm H n H' n') := by
  refine RunQ.ev 999 Try.func116 rfl rfl rfl rfl rfl fun C hr hn => ?_
  simp
  refine Stk.callS 999 (recQ s w) rfl rfl rfl (by simp) ?_
  rintro v H1 n1 ⟨rfl, hc1⟩
  cases hrec : h.recAt w with
  | none =>
    simp [recV, partOf]
    exact hr _ _ _ (fieldsV i k none) (by simp [fieldsV]) ⟨by rw [hrec], by have := hc1.1; omega, fun j hj => by have := hc1.1; rw [upd_ne _ _ (by omega), upd_ne _ _ (by omega), hc1.2 j hj]⟩
  | some bx =>
    obtain ⟨b, x⟩ := bx
    have hcan : Can x.1 x.2.1 x.2.2 := by
      unfold Hp.recAt at hrec
      repeat (first | (split at hrec) | cases hrec)
      all_goals first | cases hrec | skip
      rename_i y hy _
      exact (rd_can hy).1
    have hsz := size_can hcan
    obtain ⟨sz, hsz'⟩ : ∃ sz, sz = size x.1 x.2.1 x.2.2 := ⟨_, rfl⟩
    have hcalm : ∀ Z : Mem, (∀ j, j < n1 → Z j = H1 j) → Calm H n Z (n1 + 1) := fun Z hz => ⟨by have := hc1.1; omega, fun j hj => by have := hc1.1; rw [hz j (by omega), hc1.2 j hj]⟩
    by_cases h0 : x.1 = 0
    · have h0b : (x.1 != 0) = false := by simp [h0]
      by_cases h1 : k < 0
      · simp [recV, partOf, h0b, h1]
        exact hr _ _ _ (fieldsV i k (some (b, x))) (by simp [fieldsV, h0, show ¬ (0 ≤ k ∧ k < x.2.2) by omega]) ⟨by rw [hrec], hcalm _ (fun j hj => by rw [upd_ne _ _ (by omega), upd_ne _ _ (by omega)])⟩
      · by_cases h2 : x.2.2 ≤ k
        · simp [recV, partOf, h0b, h1, h2]
          exact hr _ _ _ (fieldsV i k (some (b, x))) (by simp [fieldsV, h0, show ¬ (0 ≤ k ∧ k < x.2.2) by omega]) ⟨by rw [hrec], hcalm _ (fun j hj => by rw [upd_ne _ _ (by omega), upd_ne _ _ (by omega)])⟩
        · have hb2 : body x.1 x.2.2 = x.2.2.toNat := by simp [body, h0]
          have hszz : size 0 x.2.1 x.2.2 = sz := by rw [hsz', h0]
          have q1 : (2 : Int) ≤ sz := by omega
          have q2 : 2 < sz := by omega
          have q3 : 2 ≤ sz := by omega
          simp [recV, partOf, h0b, h1, h2, natOk, ← hsz', q1, q2, q3]
          exact hr _ _ _ (fieldsV i k (some (b, x))) (by simp [fieldsV, h0, show (0 ≤ k ∧ k < x.2.2) by omega, hszz]) ⟨by rw [hrec], hcalm _ (fun j hj => by rw [upd_ne _ _ (by omega), upd_ne _ _ (by omega)])⟩
    · have h0b : (x.1 != 0) = true := by simp [h0]
      simp [recV, partOf, h0b]
      exact hr _ _ _ (fieldsV i k (some (b, x))) (by simp [fieldsV, h0]) ⟨by rw [hrec], hcalm _ (fun j hj => by rw [upd_ne _ _ (by omega), upd_ne _ _ (by omega)])⟩

theorem recAt_le {h : Hp} {w : Int} {b : Nat} {x : Int × Int × Int} (hr : h.recAt w = some (b, x)) : 1 ≤ b ∧ b ≤ 2 * h.half ∧ b + size x.1 x.2.1 x.2.2 ≤ 2 * h.half + 1 ∧ Can x.1 x.2.1 x.2.2 ∧ h.ws.getD b 0 = hv x.1 x.2.1 x.2.2 := by
  unfold Hp.recAt at hr
  split at hr
  · cases hr
  · split at hr
    · cases hr
    · split at hr
      · cases hr
      · rename_i b2 hb2
        split at hr
        · cases hr
        · split at hr
          · cases hr
          · rename_i y hy
            split at hr
            · rename_i hle
              cases hr
              have := pl_le hb2
              have := span_le this.2.1
              have hc := rd_can hy
              exact ⟨by omega, by omega, by omega, hc.1, hc.2⟩
            · cases hr

def fieldV (h : Hp) (k : Int) : Option (Nat × Int × Int × Int) → AV
  | none => .tup [U 0, Er 22]
  | some (b, x) => if x.1 = 0 then (if 0 ≤ k ∧ k < x.2.2 then .tup [U (h.ws.getD (b + 2 + k.toNat) 0), Er 0] else .tup [U 0, Er 20]) else .tup [U 0, Er 22]

theorem fieldQ {H : Mem} {n p i : Nat} {c : Option Nat} {h : Hp} (s : St H n p i c h) (w k : Int) :
    RunQ Try.prog T.T 53 [.own p 0, U w, I k] H n (fun r H' n' => r = fieldV h k (h.recAt w) ∧ Calm H n H' n') := by
  refine RunQ.ev 999 Try.func53 rfl rfl rfl rfl rfl fun C hr hn => ?_
  simp
  refine Stk.callS 999 (fieldsQ s w k) rfl rfl rfl (by simp) ?_
  rintro v H1 n1 ⟨rfl, hc1⟩
  have s1 := s.far hc1.1 hc1.2
  cases hrec : h.recAt w with
  | none =>
    simp [fieldsV]
    exact hr _ _ _ (fieldV h k none) (by simp [fieldV]) ⟨by rw [hrec], hc1⟩
  | some bx =>
    obtain ⟨b, x⟩ := bx
    obtain ⟨b1, b2, b3, hcan, _⟩ := recAt_le hrec
    have hsz := size_can hcan
    by_cases h0 : x.1 = 0
    · by_cases h1 : 0 ≤ k ∧ k < x.2.2
      · have hb2 : body x.1 x.2.2 = x.2.2.toNat := by simp [body, h0]
        obtain ⟨m, rfl⟩ := Int.eq_ofNat_of_zero_le h1.1
        have hwo := s1.hw
        have hlen := s.ok.len
        have hl := ldw (ws := h.ws) (k := b + 2 + m) (by omega)
        obtain ⟨sz, hsz'⟩ : ∃ sz, sz = size x.1 x.2.1 x.2.2 := ⟨_, rfl⟩
        have q1 : m < sz - 2 := by omega
        have q2 : (m : Int) < ((sz - 2 : Nat) : Int) := by omega
        have hf : fieldsV i m (some (b, x)) = .tup [.osl i (b + 2) (sz - 2) (some (sz - 2)), Er 0] := by
          unfold fieldsV; simp only; rw [if_pos h0, if_pos h1, ← hsz']
        rw [hf]
        obtain ⟨u, hu⟩ : ∃ u, u = h.ws.getD (b + 2 + m) 0 := ⟨_, rfl⟩
        rw [← hu] at hl
        simp [q1, q2, hwo, hl]
        exact hr _ _ _ (.tup [U u, Er 0]) (by simp) ⟨by rw [hrec]; unfold fieldV; simp only; rw [if_pos h0, if_pos h1, hu]; simp, hc1⟩
      · simp [fieldsV, h0, h1]
        exact hr _ _ _ (fieldV h k (some (b, x))) (by simp [fieldV, h0, h1]) ⟨by rw [hrec], hc1⟩
    · simp [fieldsV, h0]
      exact hr _ _ _ (fieldV h k (some (b, x))) (by simp [fieldV, h0]) ⟨by rw [hrec], hc1⟩

theorem awake : RunF Try.prog T.T 34 [] (B true) := by
  refine RunF.ev 999 Try.func34 rfl rfl rfl rfl rfl fun C hr hn => ?_
  simp
  refine Stk.callF 999 (headF 0 1 2) rfl rfl rfl (by simp) rfl rfl ?_
  have e1 : (if Can 0 1 2 then hv 0 1 2 else 0) = 258 := by decide
  rw [e1]
  simp
  refine Stk.callF 999 (headF 1 0 3) rfl rfl rfl (by simp) rfl rfl ?_
  have e2 : (if Can 1 0 3 then hv 1 0 3 else 0) = 65539 := by decide
  rw [e2]
  simp
  refine Stk.callS 999 (new _ _ 16) rfl rfl rfl (by simp) ?_
  intro v H1 n1 hz
  rw [if_pos (by decide)] at hz
  obtain ⟨p, i, rfl, _, _, hc, st⟩ := hz
  simp
  have st2 := st.far (H' := upd H1 n1 (some (.cells (encs eU [3, 5]) 40))) (n' := n1 + 1) (by omega) (fun j hj => upd_ne _ _ (by omega))
  have hlp := st.lp
  have hli := st.li
  have hp := put st2 0 1 2 (j := n1) (cj := some 2) (l := [3, 5]) (zs := []) (by rw [upd_same, List.append_nil]) (by omega) (by omega) (by omega)
  refine Stk.callS 999 hp rfl rfl rfl (by simp) ?_
  intro v H2 n2 hz
  rw [if_pos (by decide)] at hz
  obtain ⟨rfl, st3⟩ := hz
  replace st3 := st3.st
  obtain ⟨h3, hh3⟩ : ∃ h3 : Hp, h3 = ⟨putL (List.replicate (2 * (16 : Int).toNat + 1) 0) 1 (hv 0 1 2 :: ((2 * 1 : Nat) : Int) :: [3, 5]), (16 : Int).toNat, false, 1 + size 0 1 2, false, 0⟩ := ⟨_, rfl⟩
  have st3 : St H2 n2 p i (some (2 * (16 : Int).toNat + 1)) h3 := by rw [hh3]; exact st3
  have e3 : fieldV h3 1 (h3.recAt 2) = .tup [U 5, Er 0] := by
    rw [hh3]
    have : Hp.recAt ⟨putL (List.replicate (2 * (16 : Int).toNat + 1) 0) 1 (hv 0 1 2 :: ((2 * 1 : Nat) : Int) :: [3, 5]), (16 : Int).toNat, false, 1 + size 0 1 2, false, 0⟩ 2 = some (1, 0, 1, 2) := by decide
    rw [this]; rfl
  have e4 : h3.room = 12 := by rw [hh3]; decide
  have hf := fieldQ st3 2 1
  simp only [e3] at hf
  simp
  refine Stk.callS 999 hf rfl rfl rfl (by simp) ?_
  rintro v H4 n4 ⟨rfl, hc4⟩
  have st4 := st3.far hc4.1 hc4.2
  have hro := room st4
  simp only [e4] at hro
  simp
  refine Stk.callS 999 hro rfl rfl rfl (by simp) ?_
  rintro v H5 n5 ⟨rfl, hc5⟩
  simp
  exact hr _ _ _ (by simp)
end Go.Proofs.Ytfflojbgikfbmaa.Hea

/-
  The heap: records that are moved.
-/
namespace Go.Proofs.Ytfflojbgikfbmaa.Hea
open Go.Proofs.YtfflojbgikfbmaaW.Ah
open Go.Proofs.Ytfflojbgikfbmaa.Sta (U Er eU wrap_nsub wrap_pred load_u)
set_option maxRecDepth 4000
set_option linter.unusedVariables false
set_option linter.unusedSimpArgs false
attribute [local simp] T.t3 T.t4 T.t5 T.t26 T.t34 T.t39 T.t40 T.t62 T.t63 T.t70 T.t93 T.t144 Op.maxDepth List.range List.range.loop
attribute [-simp] appendAV cellsOf cellOk partOk
attribute [local simp] cellsOf_sc cellOk_sc partOk_sc cellsOf_own cellOk_own partOk_own cellsOf_osl cellOk_osl partOk_osl cellsOf_sh cellOk_sh partOk_sh cellsOf_ssl cellOk_ssl partOk_ssl cellsOf_esl cellOk_esl partOk_esl cellsOf_fn cellOk_fn partOk_fn cellsOf_omap cellOk_omap partOk_omap cellsOf_agg partOk_agg cellsOf_slv cellOk_slv partOk_slv

theorem putL_lt {ws l : List Int} {a k : Nat} (ha : a ≤ ws.length) (h : k < a) : (putL ws a l)[k]? = ws[k]? := by
  unfold putL
  rw [List.getElem?_append_left (by simp; omega), List.getElem?_take, if_pos h]

theorem putL_ge {ws l : List Int} {a k : Nat} (ha : a + l.length ≤ ws.length) (h : a + l.length ≤ k) : (putL ws a l)[k]? = ws[k]? := by
  unfold putL
  have e1 : (ws.take a).length = a := by simp; omega
  rw [List.getElem?_append_right (by omega), e1, List.getElem?_append_right (by omega), List.getElem?_drop]
  congr 1
  omega

theorem putL_in {ws l : List Int} {a k : Nat} (ha : a ≤ ws.length) (h : k < l.length) : (putL ws a l)[a + k]? = l[k]? := by
  unfold putL
  have e1 : (ws.take a).length = a := by simp; omega
  rw [List.getElem?_append_right (by omega), e1, List.getElem?_append_left (by omega)]
  congr 1
  omega

theorem putL_part {ws l : List Int} {a c m : Nat} (ha : a + l.length ≤ ws.length) (h : c + m ≤ a ∨ a + l.length ≤ c) : ((putL ws a l).drop c).take m = (ws.drop c).take m := by
  apply List.ext_getElem?
  intro k
  rw [List.getElem?_take, List.getElem?_take]
  split
  · rw [List.getElem?_drop, List.getElem?_drop]
    rcases h with h | h
    · exact putL_lt (by omega) (by omega)
    · exact putL_ge ha (by omega)
  · rfl

/-- A record's words behind its head and forward. -/
def tailV (i b sz : Nat) : AV := if 2 < sz then .osl i (b + 2) (sz - 2) (some (sz - 2)) else .esl true

theorem layS {H : Mem} {n p i : Nat} {c : Option Nat} {h : Hp} (s : St H n p i c h) (hd : Int) {b sz : Nat} (hsz : 2 ≤ sz) (hb : b + sz ≤ 2 * h.half + 1) (hdis : b + sz ≤ h.next ∨ h.next + 2 ≤ b + 2) (hfit : sz ≤ h.room) :
    RunQ Try.prog T.T 94 [.own p 0, U hd, tailV i b sz] H n (fun r H' n' => r = U (2 * h.next : Nat) ∧ n' = n ∧ Step H n p i c H' n' ⟨putL h.ws h.next (hd :: ((2 * h.next : Nat) : Int) :: (h.ws.drop (b + 2)).take (sz - 2)), h.half, h.up, h.next + sz, h.on, h.scan⟩) := by
  have hp := s.hp
  have hlp := s.lp
  have hip := s.ne
  have hok := s.ok
  have hlen := hok.len
  have hto := hok.to
  have hhi := hok.hi
  have hbl := h.begin_le
  have hro : h.room = h.begin + h.half - h.next := rfl
  have hw1 : IntKind.u32.wrap (h.next : Int) = h.next := ptrH h.next (by omega)
  obtain ⟨l, hl⟩ : ∃ l, l = (h.ws.drop (b + 2)).take (sz - 2) := ⟨_, rfl⟩
  have hll : l.length = sz - 2 := by rw [hl]; simp; omega
  rw [← hl]
  have hw2 : IntKind.i64.wrap (2 + (l.length : Int)) = ((2 + l.length : Nat) : Int) := by rw [wrap64_id (by omega) (by omega)]; omega
  obtain ⟨k, hk⟩ : ∃ k, k = 2 + l.length := ⟨_, rfl⟩
  have hksz : k = sz := by omega
  rw [← hk] at hw2
  have hw3 : IntKind.i64.wrap ((h.next : Int) + (k : Int)) = ((h.next + k : Nat) : Int) := by rw [wrap64_id (by omega) (by omega)]; omega
  obtain ⟨e, he⟩ : ∃ e, e = h.next + k := ⟨_, rfl⟩
  rw [← he] at hw3
  have hel : e ≤ 2 * h.half + 1 := by omega
  have hek : h.next ≤ e := by omega
  refine RunQ.ev 999 Try.func94 rfl rfl rfl rfl rfl fun C hr hn => ?_
  simp [hp, hw1]
  refine Stk.callF 999 (ptr h.next (by omega)) rfl rfl rfl (by simp) rfl rfl ?_
  have hwo := s.hw
  have hc := s.hc
  have hlt : h.next < e := by omega
  have hkn : e - h.next = k := by omega
  have heli : (e : Int) ≤ 2 * (h.half : Int) + 1 := by omega
  have h0k : (0 : Int) < k := by omega
  have h1k : (1 : Int) < k := by omega
  have h0kn : 0 < k := by omega
  have h1kn : 1 < k := by omega
  have h2kn : 2 ≤ k := by omega
  obtain ⟨w, hw⟩ : ∃ w : Int, w = ((2 * h.next : Nat) : Int) := ⟨_, rfl⟩
  rw [← hw]
  have s1 : List.take h.next (encs eU h.ws) ++ U hd :: List.drop (h.next + 1) (encs eU h.ws) = encs eU (putL h.ws h.next [hd]) := by
    have := splice_put (ws := h.ws) (l := [hd]) (a := h.next) (by simp; omega)
    rw [show encs eU [hd] = [U hd] from rfl] at this; simpa [splice] using this
  obtain ⟨ws1, hws1⟩ : ∃ ws1, ws1 = putL h.ws h.next [hd] := ⟨_, rfl⟩
  have hl1 : ws1.length = 2 * h.half + 1 := by rw [hws1, putL_len (by simp; omega), hlen]
  have s2 : List.take (h.next + 1) (encs eU ws1) ++ U w :: List.drop (h.next + 1 + 1) (encs eU ws1) = encs eU (putL ws1 (h.next + 1) [w]) := by
    have := splice_put (ws := ws1) (l := [w]) (a := h.next + 1) (by simp; omega)
    rw [show encs eU [w] = [U w] from rfl] at this; simpa [splice] using this
  obtain ⟨ws2, hws2⟩ : ∃ ws2, ws2 = putL ws1 (h.next + 1) [w] := ⟨_, rfl⟩
  have hl2 : ws2.length = 2 * h.half + 1 := by rw [hws2, putL_len (by simp; omega), hl1]
  have s3 : List.take (h.next + 2) (encs eU ws2) ++ (encs eU l ++ List.drop (h.next + 2 + l.length) (encs eU ws2)) = encs eU (putL ws2 (h.next + 2) l) := by
    have := splice_put (ws := ws2) (l := l) (a := h.next + 2) (by omega)
    rw [← this]; simp [splice, encs_map]
  have a1 : ws2 = putL h.ws h.next ([hd] ++ [w]) := by
    rw [hws2, hws1]; exact putL_put (l1 := [hd]) (l2 := [w]) (by simp; omega)
  have hfin : putL ws2 (h.next + 2) l = putL h.ws h.next (hd :: w :: l) := by
    rw [a1]; exact putL_put (l1 := [hd] ++ [w]) (l2 := l) (by simp; omega)
  have hpart : List.take (sz - 2) (List.drop (b + 2) (encs eU ws2)) = encs eU l := by
    have := putL_part (ws := h.ws) (l := [hd] ++ [w]) (a := h.next) (c := b + 2) (m := sz - 2) (by simp; omega) (by simp; omega)
    rw [← a1] at this
    rw [hl, ← this]; simp [encs_map, List.map_take, List.map_drop]
  rw [← hws1] at s1
  rw [← hws2] at s2
  rw [hfin] at s3
  have q1 : h.next ≤ 2 * h.half := by omega
  have q2 : h.next + 1 ≤ 2 * h.half := by omega
  have q3 : h.next + 1 + 1 ≤ 2 * h.half + 1 := by omega
  have h2ki : (2 : Int) ≤ k := by omega
  have q4 : h.next + 2 + l.length ≤ 2 * h.half + 1 := by omega
  have hk2 : k - 2 = l.length := by omega
  have hall : ∀ x ∈ encs eU l, cellOk x = true := by
    intro x hx
    rw [encs_map, List.mem_map] at hx
    obtain ⟨y, _, rfl⟩ := hx; rfl
  have hallt : (∀ (x : AV), x ∈ encs eU l → cellOk x = true) = True := eq_true hall
  have ht2 : List.take l.length (encs eU l) = encs eU l := by rw [List.take_of_length_le (by simp [length_encs])]
  have hww : (2 * (h.next : Int)) = w := by rw [hw]; simp
  have fin : ∀ (t : Nat → AV) (H2 : Mem), t 6 = U w → H2 p = some (.cells [.osl i 0 (2 * h.half + 1) c, I h.half, B h.up, I e, B h.on, I h.scan] 144) → H2 i = some (.cells (encs eU (putL h.ws h.next (hd :: w :: l))) 40) → (∀ x, x ≠ p → x ≠ i → H2 x = H x) → C .ret t H2 n := by
    intro t H2 t6 g1 g2 g3
    refine hr _ _ _ (U w) (by simp [t6]) ⟨by rw [hw], rfl, ⟨by rw [g1, ← hksz, he], by rw [g2, hw], hlp, s.li, hip, s.hc, ⟨hok.lo, hok.hi, ?_, ?_, ?_⟩⟩, Nat.le_refl _, fun x hx hxp hxi => g3 x hxp hxi⟩
    · simp only; rw [putL_len (by simp; omega), hlen]
    · have := hok.bg; show h.begin ≤ h.next + sz; omega
    · show h.next + sz ≤ h.begin + h.half; omega
  clear hr hn
  by_cases hl0 : sz = 2
  · have hlnil : l = [] := List.length_eq_zero_iff.1 (by omega)
    have hk2' : k = 2 := by omega
    have hw2' : IntKind.i64.wrap 2 = (k : Int) := by rw [hk2']; decide
    have h2lt : ¬ 2 < k := by omega
    have hfin0 : ws2 = putL h.ws h.next (hd :: w :: l) := by rw [a1, hlnil]; rfl
    have htv : tailV i b sz = .esl true := by unfold tailV; rw [if_neg (by omega)]
    rw [htv]
    rcases hc with rfl | rfl
    all_goals simp [hp, hw2', hw3, natOk, hwo, hlen, hel, hek, hlt, hkn, heli, h0k, h1k, h0kn, h1kn, h2kn, h2ki, h2lt, s1, s2, hl1, hl2, q1, q2, q3, hip, Ne.symm hip]
    all_goals refine fin _ _ (by simp [hww]) (by simp [Ne.symm hip]) (by rw [upd_ne _ _ hip, upd_same]; rw [hfin0]) (fun x hx hx' => by simp [hx, hx'])
  · have h2lt : 2 < k := by omega
    have htv : tailV i b sz = .osl i (b + 2) (sz - 2) (some (sz - 2)) := by unfold tailV; rw [if_pos (by omega)]
    have hw2s : IntKind.i64.wrap (2 + ((sz - 2 : Nat) : Int)) = (k : Int) := by rw [← hll]; exact hw2
    have q5 : b + 2 + (sz - 2) ≤ 2 * h.half + 1 := by omega
    have hks2 : k - 2 = sz - 2 := by omega
    rw [hll] at q4 s3 ht2
    rw [htv]
    rcases hc with rfl | rfl
    all_goals simp [hp, hw2s, hw3, natOk, hwo, hlen, hel, hek, hlt, hkn, heli, h0k, h1k, h0kn, h1kn, h2kn, h2ki, h2lt, hks2, s1, s2, hl1, hl2, q1, q2, q3, q5, hip, Ne.symm hip, hpart, ht2, hallt, q4, s3, length_encs, hll]
    all_goals refine fin _ _ (by simp [hww]) (by simp [Ne.symm hip]) (by rw [upd_ne _ _ hip, upd_same]) (fun x hx hx' => by simp [hx, hx'])

/-- Does a word's place lie in the half in use? -/
def Hp.usedP (h : Hp) (w : Int) : Bool := decide (h.half < (place w).getD 0) == h.up

theorem usedQ {H : Mem} {n p i : Nat} {c : Option Nat} {h : Hp} (s : St H n p i c h) (w : Int) :
    RunQ Try.prog T.T 115 [.own p 0, U w] H n (fun r H' n' => r = B (h.usedP w) ∧ H' = H ∧ n' = n) := by
  have hp := s.hp
  have hlp := s.lp
  refine RunQ.ev 999 Try.func115 rfl rfl rfl rfl rfl fun C hr hn => ?_
  simp
  refine Stk.callF 999 (atF w) rfl rfl rfl (by simp) rfl rfl ?_
  obtain ⟨a, ha⟩ : ∃ a, a = (place w).getD 0 := ⟨_, rfl⟩
  have hal : a < 4294967296 := by
    rw [ha]
    cases hpl : place w with
    | none => simp
    | some b => have := place_lt hpl; simp; omega
  have w1 : IntKind.i64.wrap (a : Int) = a := wrap64_id (by omega) (by omega)
  have hu : h.usedP w = (decide (h.half < a) == h.up) := by unfold Hp.usedP; rw [ha]
  rw [← ha]
  simp
  refine Stk.regionD 999 [.rd [], .rd [], .rd [], .rd [], .rd [], .rd [], .rd [p], .rd [], .rd [], .rd [], .rd [], .rd [], .rd [p], .rd [], .rd []] none (by kernel_rfl) (by rfl) rfl (by simp [below, *]) rfl ?_
  simp [hp, w1]
  exact hr _ _ _ (B (h.usedP w)) (by simp [hu]) ⟨rfl, rfl, rfl⟩

def lookV : Option (Nat × Int × Int × Int) → AV
  | some (_, x) => .tup [hd x.1 x.2.1 x.2.2, Er 0]
  | none => .tup [hd 0 0 0, Er 22]

theorem lookQ {H : Mem} {n p i : Nat} {c : Option Nat} {h : Hp} (s : St H n p i c h) (w : Int) :
    RunQ Try.prog T.T 52 [.own p 0, U w] H n (fun r H' n' => r = lookV (h.recAt w) ∧ Calm H n H' n') := by
  obtain ⟨Z, hZ⟩ : ∃ Z : Mem, Z = upd H n (some (.cells [.sc (.int .i64 0), .sc (.int .i64 0), .sc (.int .i64 0)] 34)) := ⟨_, rfl⟩
  have hc0 : Calm H n Z (n + 1) := ⟨by omega, fun j hj => by rw [hZ, upd_ne _ _ (by omega)]⟩
  have s0 : St Z (n + 1) p i c h := s.far hc0.1 hc0.2
  have z0 : Z n = some (.cells [.sc (.int .i64 0), .sc (.int .i64 0), .sc (.int .i64 0)] 34) := by rw [hZ, upd_same]
  refine RunQ.ev 999 Try.func52 rfl rfl rfl rfl rfl fun C hr hn => ?_
  simp
  rw [← hZ]
  refine Stk.callS 999 (recQ s0 w) rfl rfl rfl (by simp) ?_
  rintro v H1 n1 ⟨rfl, hc1⟩
  have h1n : H1 n = some (.cells [.sc (.int .i64 0), .sc (.int .i64 0), .sc (.int .i64 0)] 34) := by rw [hc1.2 n (by omega), z0]
  have g1 := hc1.1
  cases hrec : h.recAt w with
  | none =>
    simp [recV, partOf, h1n, show n ≠ n1 by omega]
    exact hr _ _ _ (lookV none) (by simp [lookV, partOf, show n ≠ n1 by omega]) ⟨by rw [hrec], by omega, fun j hj => by rw [upd_ne _ _ (by omega), upd_ne _ _ (by omega), upd_ne _ _ (by omega), hc1.2 j (by omega), hc0.2 j hj]⟩
  | some bx =>
    obtain ⟨b, x⟩ := bx
    simp [recV, partOf, h1n, show n ≠ n1 by omega]
    exact hr _ _ _ (lookV (some (b, x))) (by simp [lookV, partOf, show n ≠ n1 by omega]) ⟨by rw [hrec], by omega, fun j hj => by rw [upd_ne _ _ (by omega), upd_ne _ _ (by omega), upd_ne _ _ (by omega), hc1.2 j (by omega), hc0.2 j hj]⟩

theorem recAt_pl {h : Hp} {w : Int} {b : Nat} {x : Int × Int × Int} (hr : h.recAt w = some (b, x)) : ∃ a, h.pl w = some a ∧ 2 ≤ h.span a ∧ h.pl (h.ws.getD (a + 1) 0) = some b ∧ size x.1 x.2.1 x.2.2 ≤ h.span b := by
  unfold Hp.recAt at hr
  split at hr
  · cases hr
  · rename_i a ha
    split at hr
    · cases hr
    · split at hr
      · cases hr
      · rename_i b2 hb2
        split at hr
        · cases hr
        · split at hr
          · cases hr
          · split at hr
            · rename_i hle
              cases hr
              exact ⟨a, ha, by omega, hb2, hle⟩
            · cases hr

theorem set_cells {l : List Int} {k : Nat} (h : k < l.length) (w : Int) : List.take k (encs eU l) ++ U w :: List.drop (k + 1) (encs eU l) = encs eU (l.set k w) := by
  have := splice_own (e := eU) (z := 1) l [] k h w
  rw [show eU w = [U w] from rfl] at this
  simpa [splice] using this
end Go.Proofs.Ytfflojbgikfbmaa.Hea
