/-
  The heap: a word's record.
-/
import Derived.Test.YtfflojbgikfbmaaHF
namespace Go.Proofs.Ytfflojbgikfbmaa.Hea
open Go.Proofs.YtfflojbgikfbmaaW.Ah
open Go.Proofs.Ytfflojbgikfbmaa.Sta (U Er eU wrap_nsub wrap_pred load_u)
set_option maxRecDepth 4000
set_option linter.unusedVariables false
set_option linter.unusedSimpArgs false
attribute [local simp] T.t3 T.t4 T.t5 T.t26 T.t34 T.t39 T.t40 T.t62 T.t63 T.t70 T.t93 T.t144 Op.maxDepth List.range List.range.loop
attribute [-simp] appendAV cellsOf cellOk partOk
attribute [local simp] cellsOf_sc cellOk_sc partOk_sc cellsOf_own cellOk_own partOk_own cellsOf_osl cellOk_osl partOk_osl cellsOf_sh cellOk_sh partOk_sh cellsOf_ssl cellOk_ssl partOk_ssl cellsOf_esl cellOk_esl partOk_esl cellsOf_fn cellOk_fn partOk_fn cellsOf_omap cellOk_omap partOk_omap cellsOf_agg partOk_agg cellsOf_slv cellOk_slv partOk_slv

/-- A word's place in a heap. -/
def Hp.pl (h : Hp) (w : Int) : Option Nat := match place w with
  | some a => if a ≤ 2 * h.half then some a else none
  | none => none
/-- The words from a place on. -/
def Hp.span (h : Hp) (a : Nat) : Nat := if a ≤ h.half then h.half + 1 - a else 2 * h.half + 1 - a
def Hp.capT (h : Hp) (c : Option Nat) (a : Nat) : Option Nat := if a ≤ h.half then some (h.half + 1 - a) else c.map (· - a)
def fromV (h : Hp) (i : Nat) (c : Option Nat) : Option Nat → AV
  | some a => .osl i a (h.span a) (h.capT c a)
  | none => .sc (.slice none 0 0)

theorem place_lt {w : Int} {a : Nat} (h : place w = some a) : 1 ≤ a ∧ a < 4294967296 ∧ w = ((2 * a : Nat) : Int) := by
  unfold place at h
  split at h
  · cases h
  · cases h; omega

theorem fromQ {H : Mem} {n p i : Nat} {c : Option Nat} {h : Hp} (s : St H n p i c h) (w : Int) :
    RunQ Try.prog T.T 114 [.own p 0, U w] H n (fun r H' n' => r = fromV h i c (h.pl w) ∧ H' = H ∧ n' = n) := by
  have hp := s.hp
  have hlp := s.lp
  have hok := s.ok
  have hhi := hok.hi
  have hlen := hok.len
  have hwo := s.hw
  have w2 : IntKind.i64.wrap (2 * (h.half : Int)) = 2 * (h.half : Int) := wrap64_id (by omega) (by omega)
  have w3 := wrap_succ h.half (by omega)
  refine RunQ.ev 999 Try.func114 rfl rfl rfl rfl rfl fun C hr hn => ?_
  simp
  refine Stk.callF 999 (atF w) rfl rfl rfl (by simp) rfl rfl ?_
  cases hpl : place w with
  | none =>
    have w0 : IntKind.i64.wrap 0 = 0 := by decide
    simp [hpl, w0]
    exact hr _ _ _ (.sc (.slice none 0 0)) (by simp) ⟨by simp [Hp.pl, hpl, fromV], rfl, rfl⟩
  | some a =>
    obtain ⟨ha1, ha2, _⟩ := place_lt hpl
    have w1 : IntKind.i64.wrap (a : Int) = a := wrap64_id (by omega) (by omega)
    by_cases h1 : a ≤ 2 * h.half
    · have h1' : ¬ (2 * (h.half : Int) < a) := by omega
      have h1n : ¬ (2 * h.half < a) := by omega
      have hpl2 : h.pl w = some a := by simp [Hp.pl, hpl, h1]
      by_cases h2 : a ≤ h.half
      · have h2' : (a : Int) ≤ h.half := by omega
        have q1 : h.half + 1 ≤ 2 * h.half + 1 := by omega
        have q1' : (h.half : Int) + 1 ≤ 2 * (h.half : Int) + 1 := by omega
        have q2 : a ≤ h.half + 1 := by omega
        have q3 : a < h.half + 1 := by omega
        have ha0 : ¬ a = 0 := by omega
        have hcl : (2 * h.half + 1) / 1 = 2 * h.half + 1 := by omega
        obtain ⟨e, he⟩ : ∃ e, e = h.half + 1 := ⟨_, rfl⟩
        rw [← he] at w3 q1 q2 q3
        have q1' : (e : Int) ≤ 2 * (h.half : Int) + 1 := by omega
        have fin : ∀ (t : Nat → AV), t 4 = .osl i a (e - a) (some (e - a)) → C .ret t H n := by
          intro t t4
          exact hr _ _ _ (.osl i a (e - a) (some (e - a))) (by simp [t4]) ⟨by simp [hpl2, fromV, Hp.span, Hp.capT, h2, he], rfl, rfl⟩
        rcases s.hc with rfl | rfl
        all_goals simp [hpl, w1, hp, w2, h1', h1n, h2, h2']
        all_goals refine Stk.regionD 999 [.rd [], .rd [], .rd [], .rd [], .rd [p], .rd [], .rd [], .rd [], .rd [], .rd [], .rd [p], .rd [], .rd [], .rd [], .rd [], .rd [], .rd [p], .rd [], .rd [i], .rd []] none (by kernel_rfl) (by rfl) rfl (by simp [below, *]) rfl ?_
        all_goals simp [hp, w3, natOk, hwo, hlen, q1, q1', q2, q3]
        all_goals exact fin _ (by simp)
      · have h2' : ¬ (a : Int) ≤ h.half := by omega
        have q1 : a ≤ 2 * h.half + 1 := by omega
        have q3 : a < 2 * h.half + 1 := by omega
        have q1i : (a : Int) ≤ 2 * (h.half : Int) + 1 := by omega
        have fin : ∀ (t : Nat → AV), t 4 = .osl i a (2 * h.half + 1 - a) (c.map (· - a)) → C .ret t H n := by
          intro t t4
          exact hr _ _ _ (.osl i a (2 * h.half + 1 - a) (c.map (· - a))) (by simp [t4]) ⟨by simp [hpl2, fromV, Hp.span, Hp.capT, h2], rfl, rfl⟩
        rcases s.hc with rfl | rfl
        all_goals simp [hpl, w1, hp, w2, h1', h1n, h2, h2', natOk, hwo, hlen, q1, q3, q1i]
        all_goals exact fin _ (by simp)
    · have h1' : (2 * (h.half : Int) < a) := by omega
      have h1n : (2 * h.half < a) := by omega
      simp [hpl, w1, hp, w2, h1', h1n]
      exact hr _ _ _ (.sc (.slice none 0 0)) (by simp) ⟨by simp [Hp.pl, hpl, fromV, h1], rfl, rfl⟩

theorem ldw {ws : List Int} {k : Nat} (h : k < ws.length) : partOf T.T 40 (encs eU ws) k = some (U (ws.getD k 0)) := by
  simp [partOf, encs_map, h]

theorem lim_ok {H : Mem} {n p i : Nat} {c : Option Nat} {h : Hp} (s : St H n p i c h) {b : Nat} (hb : b ≤ 2 * h.half) (h1 : 1 ≤ b) : limOf H 40 1 i b (h.span b) (h.capT c b) = h.span b ∧ natOk H 40 i (h.capT c b) = true := by
  have hwo := s.hw
  have hlen := s.ok.len
  unfold Hp.capT Hp.span
  by_cases h2 : b ≤ h.half
  · simp [h2, limOf, natOk]
  · rcases s.hc with rfl | rfl
    · simp [h2, limOf, natOk, hwo, hlen]
    · simp [h2, limOf, natOk]

theorem drawOk2_swap {i n : Nat} (h : i ≠ n) (G : Array Oper) (q : Option Nat) (hd : drawOk2 G [.rd [n + 1], .rd [], .rd [], .rd [], .rd [], .mem [n] (n + 2), .rd [], .rd []] q = true) : drawOk2 G [.rd [n + 1], .rd [], .rd [], .rd [], .rd [i], .mem [n] (n + 2), .rd [], .rd []] q = true := by
  have hb : ([n] : List Nat).contains i = false := by simp [h]
  have key : ∀ a b : Nat, Cls.indep' ([Cls.rd [n + 1], .rd [], .rd [], .rd [], .rd [i], .mem [n] (n + 2), .rd [], .rd []] : List Cls)[a]? ([Cls.rd [n + 1], .rd [], .rd [], .rd [], .rd [i], .mem [n] (n + 2), .rd [], .rd []] : List Cls)[b]? = Cls.indep' ([Cls.rd [n + 1], .rd [], .rd [], .rd [], .rd [], .mem [n] (n + 2), .rd [], .rd []] : List Cls)[a]? ([Cls.rd [n + 1], .rd [], .rd [], .rd [], .rd [], .mem [n] (n + 2), .rd [], .rd []] : List Cls)[b]? := by
    intro a b
    have e : ∀ (x : Nat), ([Cls.rd [n + 1], .rd [], .rd [], .rd [], .rd [i], .mem [n] (n + 2), .rd [], .rd []] : List Cls)[x]? = ([Cls.rd [n + 1], .rd [], .rd [], .rd [], .rd [], .mem [n] (n + 2), .rd [], .rd []] : List Cls)[x]? ∨ x = 4 := by
      intro x
      match x with
      | 0 | 1 | 2 | 3 | 5 | 6 | 7 => exact .inl rfl
      | 4 => exact .inr rfl
      | x + 8 => exact .inl rfl
    have f : ∀ (x : Nat), (∃ R, ([Cls.rd [n + 1], .rd [], .rd [], .rd [], .rd [], .mem [n] (n + 2), .rd [], .rd []] : List Cls)[x]? = some (.rd R)) ∨ ([Cls.rd [n + 1], .rd [], .rd [], .rd [], .rd [], .mem [n] (n + 2), .rd [], .rd []] : List Cls)[x]? = some (.mem [n] (n + 2)) ∨ ([Cls.rd [n + 1], .rd [], .rd [], .rd [], .rd [], .mem [n] (n + 2), .rd [], .rd []] : List Cls)[x]? = none := by
      intro x
      match x with
      | 0 => exact .inl ⟨_, rfl⟩
      | 1 => exact .inl ⟨_, rfl⟩
      | 2 => exact .inl ⟨_, rfl⟩
      | 3 => exact .inl ⟨_, rfl⟩
      | 4 => exact .inl ⟨_, rfl⟩
      | 5 => exact .inr (.inl rfl)
      | 6 => exact .inl ⟨_, rfl⟩
      | 7 => exact .inl ⟨_, rfl⟩
      | x + 8 => exact .inr (.inr rfl)
    rcases e a with ea | rfl
    · rcases e b with eb | rfl
      · rw [ea, eb]
      · rw [ea]
        rcases f a with ⟨R, fa⟩ | fa | fa <;> rw [fa] <;> simp [Cls.indep', h]
    · rcases e b with eb | rfl
      · rw [eb]
        rcases f b with ⟨R, fb⟩ | fb | fb <;> rw [fb] <;> simp [Cls.indep', h]
      · simp [Cls.indep']
  have key2 : ∀ a b, indep2 G [.rd [n + 1], .rd [], .rd [], .rd [], .rd [i], .mem [n] (n + 2), .rd [], .rd []] a b = indep2 G [.rd [n + 1], .rd [], .rd [], .rd [], .rd [], .mem [n] (n + 2), .rd [], .rd []] a b := by
    intro a b; unfold indep2; rw [key a b]
  have key3 : ∀ a b, pairOk2 G [.rd [n + 1], .rd [], .rd [], .rd [], .rd [i], .mem [n] (n + 2), .rd [], .rd []] q a b = pairOk2 G [.rd [n + 1], .rd [], .rd [], .rd [], .rd [], .mem [n] (n + 2), .rd [], .rd []] q a b := by
    intro a b; unfold pairOk2; rw [key2 a b]
  unfold drawOk2 at hd ⊢
  simp only [key3]
  exact hd

/-- A word's record: its place and its head. -/
def Hp.recAt (h : Hp) (w : Int) : Option (Nat × Int × Int × Int) := match h.pl w with
  | none => none
  | some a => if h.span a < 2 then none else
    match h.pl (h.ws.getD (a + 1) 0) with
    | none => none
    | some b => if h.span b < 2 then none else
      match rd (h.ws.getD b 0) with
      | none => none
      | some x => if size x.1 x.2.1 x.2.2 ≤ h.span b then some (b, x) else none

def recV (i : Nat) : Option (Nat × Int × Int × Int) → AV
  | some (b, x) => .tup [hd x.1 x.2.1 x.2.2, .osl i b (size x.1 x.2.1 x.2.2) (some (size x.1 x.2.1 x.2.2)), B true]
  | none => .tup [hd 0 0 0, .sc (.slice none 0 0), B false]

theorem pl_le {h : Hp} {w : Int} {a : Nat} (hp : h.pl w = some a) : 1 ≤ a ∧ a ≤ 2 * h.half ∧ w = ((2 * a : Nat) : Int) := by
  unfold Hp.pl at hp
  split at hp
  · rename_i b hb
    split at hp
    · cases hp; have := place_lt hb; exact ⟨this.1, by assumption, this.2.2⟩
    · cases hp
  · cases hp

theorem span_le {h : Hp} {a : Nat} (ha : a ≤ 2 * h.half) : a + h.span a ≤ 2 * h.half + 1 := by unfold Hp.span; split <;> omega

theorem rd_can {w : Int} {x : Int × Int × Int} (h : rd w = some x) : Can x.1 x.2.1 x.2.2 ∧ w = hv x.1 x.2.1 x.2.2 := by
  unfold rd at h
  split at h
  · rename_i hc; cases h; refine ⟨hc.2.2, ?_⟩; unfold hv; simp only; omega
  · cases h

theorem recQ {H : Mem} {n p i : Nat} {c : Option Nat} {h : Hp} (s : St H n p i c h) (w : Int) :
    RunQ Try.prog T.T 113 [.own p 0, U w] H n (fun r H' n' => r = recV i (h.recAt w) ∧ Calm H n H' n') := by
  have hok := s.ok
  have hhi := hok.hi
  have hlen := hok.len
  obtain ⟨Z, hZ⟩ : ∃ Z : Mem, Z = upd H n (some (.cells [.sc (.int .i64 0), .sc (.int .i64 0), .sc (.int .i64 0)] 34)) := ⟨_, rfl⟩
  have hc0 : Calm H n Z (n + 1) := ⟨by omega, fun j hj => by rw [hZ, upd_ne _ _ (by omega)]⟩
  have s0 : St Z (n + 1) p i c h := s.far hc0.1 hc0.2
  have z0 : Z n = some (.cells [.sc (.int .i64 0), .sc (.int .i64 0), .sc (.int .i64 0)] 34) := by rw [hZ, upd_same]
  refine RunQ.ev 999 Try.func113 rfl rfl rfl rfl rfl fun C hr hn => ?_
  simp
  rw [← hZ]
  have fail : h.recAt w = none → ∀ (t : Nat → AV) H2 n2, t 4 = .own n 0 → t 5 = .sc (.slice none 0 0) → t 6 = B false → H2 n = some (.cells [I 0, I 0, I 0] 34) → Calm H n H2 n2 → C .ret t H2 n2 := by
    intro hrec t H2 n2 g4 g5 g6 g g'
    exact hr _ _ _ (recV i none) (by simp [g4, g5, g6, g, partOf, recV]) ⟨by rw [hrec], g'⟩
  refine Stk.callS 999 (fromQ s0 w) rfl rfl rfl (by simp) ?_
  rintro v H1 n1 ⟨rfl, rfl, rfl⟩
  cases hpl : h.pl w with
  | none =>
    simp [fromV, z0]
    refine fail (by simp [Hp.recAt, hpl]) _ _ _ (by simp) (by simp) (by simp) (by simp) ⟨hc0.1, fun j hj => by rw [upd_ne _ _ (by omega), hc0.2 j hj]⟩
  | some a =>
    obtain ⟨a1, a2, _⟩ := pl_le hpl
    have hsp := span_le a2
    by_cases hs : h.span a < 2
    · have hsi : (h.span a : Int) < 2 := by omega
      simp [fromV, hs, hsi, z0]
      refine fail (by simp [Hp.recAt, hpl, hs]) _ _ _ (by simp) (by simp) (by simp) (by simp) ⟨hc0.1, fun j hj => by rw [upd_ne _ _ (by omega), hc0.2 j hj]⟩
    · have hsi : ¬ (h.span a : Int) < 2 := by omega
      have h1s : 1 < h.span a := by omega
      have hl1 := ldw (ws := h.ws) (k := a + 1) (by omega)
      obtain ⟨u, hu⟩ : ∃ u, u = h.ws.getD (a + 1) 0 := ⟨_, rfl⟩
      rw [← hu] at hl1
      have hwo := s0.hw
      have h1si : (1 : Int) < h.span a := by omega
      simp [fromV, hs, hsi, h1s, h1si, hwo, hl1]
      refine Stk.callS 999 (fromQ s0 u) rfl rfl rfl (by simp) ?_
      rintro v H1 n1 ⟨rfl, rfl, rfl⟩
      cases hpl2 : h.pl u with
      | none =>
        simp [fromV, z0]
        refine fail (by simp only [Hp.recAt, hpl, hs, if_false, ← hu, hpl2]) _ _ _ (by simp) (by simp) (by simp) (by simp) ⟨hc0.1, fun j hj => by rw [upd_ne _ _ (by omega), hc0.2 j hj]⟩
      | some b =>
        obtain ⟨b1, b2, _⟩ := pl_le hpl2
        have hsp2 := span_le b2
        by_cases ht : h.span b < 2
        · have hti : (h.span b : Int) < 2 := by omega
          simp [fromV, ht, hti, z0]
          refine fail (by simp only [Hp.recAt, hpl, hs, if_false, ← hu, hpl2, ht, if_true]) _ _ _ (by simp) (by simp) (by simp) (by simp) ⟨hc0.1, fun j hj => by rw [upd_ne _ _ (by omega), hc0.2 j hj]⟩
        · have hti : ¬ (h.span b : Int) < 2 := by omega
          have h0t : 0 < h.span b := by omega
          have hl2 := ldw (ws := h.ws) (k := b) (by omega)
          obtain ⟨y, hy⟩ : ∃ y, y = h.ws.getD b 0 := ⟨_, rfl⟩
          rw [← hy] at hl2
          have h0ti : (0 : Int) < h.span b := by omega
          simp [fromV, ht, hti, h0t, h0ti, hwo, hl2]
          refine Stk.callF 999 (readF y) rfl rfl rfl (by simp) rfl (by unfold rdV; split <;> rfl) ?_
          obtain ⟨hlim, hnat⟩ := lim_ok s0 b2 b1
          cases hrd : rd y with
          | none =>
            have hz : size 0 0 0 = 0 := by decide
            simp [rdV, hrd, partOf]
            refine Stk.callF 999 (sizeF 0 0 0) rfl rfl rfl (by simp) rfl rfl ?_
            simp [hz, z0, partOf]
            refine fail (by simp only [Hp.recAt, hpl, hs, if_false, ← hu, hpl2, ht, ← hy, hrd]) _ _ _ (by simp) (by simp) (by simp) (by simp) ⟨by omega, fun j hj => by rw [upd_ne _ _ (by omega), upd_ne _ _ (by omega), upd_ne _ _ (by omega), hc0.2 j hj]⟩
          | some x =>
            obtain ⟨hcan, hyx⟩ := rd_can hrd
            have hsz := size_can hcan
            obtain ⟨sz, hsz'⟩ : ∃ sz, sz = size x.1 x.2.1 x.2.2 := ⟨_, rfl⟩
            simp [rdV, hrd, partOf]
            refine Stk.callF 999 (sizeF x.1 x.2.1 x.2.2) rfl rfl rfl (by simp) rfl rfl ?_
            rw [← hsz']
            by_cases hfit : sz ≤ h.span b
            · have hfi : (sz : Int) ≤ h.span b := by omega
              simp [hfit, hfi]
              have hin : i ≠ n := by have := s.li; omega
              have hin1 : i ≠ n + 1 := by have := s.li; omega
              have hin2 : i < n + 2 := by have := s.li; omega
              have hsp3 : sz ≤ h.span b := hfit
              obtain ⟨Z2, hZ2⟩ : ∃ Z2 : Mem, Z2 = upd (upd H1 (n + 1) (some (.cells [.sc (.int .i64 0), .sc (.int .i64 0), .sc (.int .i64 0)] 34))) (n + 1) (some (.cells [I x.1, I x.2.1, I x.2.2] 34)) := ⟨_, rfl⟩
              have z2i : Z2 i = some (.cells (encs eU h.ws) 40) := by rw [hZ2, upd_ne _ _ hin1, upd_ne _ _ hin1, hwo]
              have z2x : Z2 (n + 1) = some (.cells [I x.1, I x.2.1, I x.2.2] 34) := by rw [hZ2, upd_same]
              have z2n : Z2 n = some (.cells [I 0, I 0, I 0] 34) := by rw [hZ2, upd_ne _ _ (by omega), upd_ne _ _ (by omega), z0]
              have hc2 : Calm H n Z2 (n + 2) := ⟨by omega, fun j hj => by rw [hZ2, upd_ne _ _ (by omega), upd_ne _ _ (by omega), hc0.2 j hj]⟩
              obtain ⟨hlim, hnat⟩ := lim_ok (s.far hc2.1 hc2.2) b2 b1
              rw [← hZ2]
              refine Stk.regionD 999 [.rd [n + 1], .rd [], .rd [], .rd [], .rd [i], .mem [n] (n + 2), .rd [], .rd []] none (by kernel_rfl) (drawOk2_swap hin _ _ (by rfl)) rfl (by simp [below, hin2]) rfl ?_
              simp [-natOk, -limOf, z2x, z2n, hnat, hlim, partOf, hsp3]
              refine ⟨fun j hj hj' e => absurd e hj', ?_⟩
              refine hr _ _ _ (recV i (some (b, x))) (by simp [recV, partOf, hsz']) ⟨?_, by omega, fun j hj => by rw [upd_ne _ _ (by omega), hc2.2 j hj]⟩
              simp only [Hp.recAt, hpl, hs, if_false, ← hu, hpl2, ht, ← hy, hrd, ← hsz', hfit, if_true]
            · have hfi : ¬ (sz : Int) ≤ h.span b := by omega
              simp [hfit, hfi, z0]
              refine fail (by simp only [Hp.recAt, hpl, hs, if_false, ← hu, hpl2, ht, ← hy, hrd, ← hsz', hfit]) _ _ _ (by simp) (by simp) (by simp) (by simp) ⟨by omega, fun j hj => by rw [upd_ne _ _ (by omega), upd_ne _ _ (by omega), upd_ne _ _ (by omega), hc0.2 j hj]⟩
end Go.Proofs.Ytfflojbgikfbmaa.Hea
