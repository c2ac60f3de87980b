/-
  For AstSame: texts of the road to it, 16 of 16.
-/
import Derived.Test.YtappiofmkoelnaaGreatDoorKAstSame14
import Derived.Lib.RuneCount
section
namespace Go.Proofs.YtappiofmkoelnaaGreatDoor.M
open Go.Proofs.YtappiofmkoelnaaGreatDoorW.Ah Go.Proofs.YtappiofmkoelnaaGreatDoor
set_option linter.unusedVariables false
set_option linter.unusedSimpArgs false
def Tot {α : Type} (o : Option α) : Prop := ∃ b, o = some b
theorem Tot.mk {α : Type} (b : α) : Tot (some b) := ⟨b, rfl⟩
theorem tot_valid (F : Nat) {s : ByteArray} (hs : s.size ≤ maxLen) : Tot (u8_ValidString F s) := by
 unfold u8_ValidString; rw [decide_eq_true hs]; exact .mk _
theorem tot_low (F : Nat) (r : Int) : Tot (runes_Low F r) := by
 rw [runes_Low]
 simp only [joinM, u8_ValidRune]
 cases (decide (97 ≤ r) && decide (r ≤ 122)) <;> simp
 ·cases decide (128 ≤ r) <;> simp
  ·exact .mk _
  ·cases (decide (0 ≤ r) && decide (r < 55296)) <;> simp
   ·cases (decide (57343 < r) && decide (r ≤ 1114111)) <;> exact .mk _
   ·exact .mk _
 ·exact .mk _
theorem tot_part (F : Nat) (r : Int) : Tot (lex_part F r) := by
 obtain ⟨l, hl⟩ := tot_low F r
 rw [lex_part]
 simp only [hl, joinM, runes_Up, runes_Digit, Option.bind_some]
 cases l
 ·cases (decide (65 ≤ r) && decide (r ≤ 90)) <;> exact .mk _
 ·exact .mk _
theorem tot_word (F : Nat) (s : ByteArray) : Tot (lex_Word F s) := by
 rw [lex_Word]
 generalize s.toList = l
 repeat' first | exact .mk _ | (rw [cond_eq_ite]; split)
theorem tot_count (F : Nat) (s : ByteArray) : ∀ (m i : Nat) (v : Int), s.size ≤ i + m → Tot (u8_RuneCountInString_L0 F s (m + 1) v i)
 | 0, i, v, h => by rw [u8_RuneCountInString_L0, decide_eq_false (by omega)]; exact .mk _
 | m + 1, i, v, h => by
  rw [u8_RuneCountInString_L0]
  by_cases hi : i < s.size
  ·rw [decide_eq_true hi, cond_true]
   have := Go.Lib.decode_width_pos s i hi
   exact tot_count F s m _ _ (by omega)
  ·rw [decide_eq_false hi]; exact .mk _
theorem tot_loop (F : Nat) (s : ByteArray) (up : Bool) : ∀ (m i : Nat), s.size ≤ i + m → Tot (lex_Named_L0 F s up (m + 1) i)
 | 0, i, h => by rw [lex_Named_L0, decide_eq_false (by omega)]; exact .mk _
 | m + 1, i, h => by
  rw [lex_Named_L0]
  by_cases hi : i < s.size
  ·rw [decide_eq_true hi, cond_true]
   have := Go.Lib.decode_width_pos s i hi
   obtain ⟨p, hp⟩ := tot_part F ((Utf8.decode s i).1 : Int)
   obtain ⟨l, hl⟩ := tot_low F ((Utf8.decode s i).1 : Int)
   have ih := tot_loop F s up m (i + (Utf8.decode s i).2) (by omega)
   simp only [hp, hl, joinM, runes_Up, Option.bind_some]
   generalize ((i : Int) == 0) = z
   generalize (decide (65 ≤ ((Utf8.decode s i).1 : Int)) && decide (((Utf8.decode s i).1 : Int) ≤ 90)) = u
   cases p <;> cases z <;> cases up <;> cases l <;> cases u <;> first | exact ih | exact .mk _
  ·rw [decide_eq_false hi]; exact .mk _
def NameF (s : ByteArray) (F : Nat) : Prop := s.size ≤ maxLen ∧ s.size + 2 < F
theorem nameF {s : ByteArray} (h : s.size ≤ maxLen) : Evt (NameF s) := (Evt.ge (s.size + 3)).mono fun F a => ⟨h, by omega⟩
theorem tot_named (F : Nat) {s : ByteArray} (h : NameF s F) (up : Bool) : Tot (lex_Named F s up) := by
 obtain ⟨h1, h2⟩ := h
 obtain ⟨m, rfl⟩ : ∃ m, F = m + 1 := ⟨F - 1, by omega⟩
 obtain ⟨a, ha⟩ := tot_word (m + 1) s
 obtain ⟨b, hb⟩ := tot_valid (m + 1) h1
 obtain ⟨c, hc⟩ := tot_count (m + 1) s m 0 0 (by omega)
 obtain ⟨d, hd⟩ := tot_loop (m + 1) s up m 0 (by omega)
 rw [lex_Named]
 simp only [joinM, ha, hb, show u8_RuneCountInString (m + 1) s = some c from hc, hd, Option.bind_some]
 cases (s.toList == (⟨#[]⟩ : ByteArray).toList) <;> cases a <;> cases b <;> cases decide (24 < c) <;> exact .mk _
theorem tot_small (F : Nat) {s : ByteArray} (h : NameF s F) : Tot (ast_small F s) := by
 obtain ⟨b, hb⟩ := tot_named F h false
 rw [ast_small, hb]; exact .mk _
theorem tot_great (F : Nat) {s : ByteArray} (h : NameF s F) : Tot (ast_great F s) := by
 obtain ⟨b, hb⟩ := tot_named F h true
 rw [ast_great, hb]; exact .mk _
theorem tot_declared (F : Nat) {s : ByteArray} (h : NameF s F) : Tot (ast_declared F s) := by
 obtain ⟨b, hb⟩ := tot_small F h
 rw [ast_declared, hb]; exact .mk _
theorem tot_called (F : Nat) {s : ByteArray} (h : NameF s F) : Tot (ast_called F s) := by
 obtain ⟨b, hb⟩ := tot_small F h
 rw [ast_called]
 simp only [joinM, hb, Option.bind_some]
 repeat' first | exact .mk _ | (rw [cond_eq_ite]; split)
theorem every_tot {α : Type} (xs : List α) (φ : α → Option Bool) (f : Nat → Int → Option Int) (hf : ∀ m v, f (m + 1) v = bif (decide (v < (xs.length : Int))) then ((idx xs v).bind fun x4 => ((φ x4).bind fun x2 => some (!x2)).bind fun x5 => bif x5 then (some v) else (f m (IntKind.i64.wrap (v + 1)))) else (some (-1)))
  (hφ : ∀ x ∈ xs, Tot (φ x)) (hl : xs.length ≤ maxLen) (n : Nat) (hn : xs.length < n) (a b : Int) :
  Tot (joinM (fun (v2 : Bool) => some v2) fun K1 => bif ((decide (a ≤ (xs.length : Int))) && (decide ((xs.length : Int) ≤ b))) then (((f n 0).bind fun x1 => some (decide (0 ≤ x1))).bind fun x3 => K1 (!x3)) else (K1 false)) := by
 have h : Tot (f n 0) := by
  refine loop_ok xs (fun n (_ : Unit) v => f n v) (fun _ _ => True) Tot ?_ ?_ n () hn trivial
  ·intro n s _
   rw [hf, dec_end, cond_false]; exact .mk _
  ·intro n s k x hx _ next
   obtain ⟨b, hb⟩ := hφ x (List.mem_of_getElem? hx)
   rw [hf, dec_lt hx, cond_true, idx_nat, hx, Option.bind_some, hb, Option.bind_some, Option.bind_some, wrapK hx hl]
   cases b
   ·exact .mk _
   ·exact next () trivial
 obtain ⟨r, hr⟩ := h
 simp only [joinM, hr, Option.bind_some]
 cases ((decide (a ≤ (xs.length : Int))) && (decide ((xs.length : Int) ≤ b))) <;> exact .mk _
theorem wrapD {d : Int} (h0 : ¬ d < 1) (h : d ≤ 64) : IntKind.i64.wrap (d - 1) = d - 1 := wrap_ok (by omega) (by omega)
theorem tot_evT {F : Nat} {xs : List AType} {φ : AType → Option Bool} (h : ∀ x ∈ xs, Tot (φ x)) (hl : xs.length ≤ maxLen) (hF : xs.length < F) (a b : Int) : Tot (aev_AType F xs a b φ) :=
 every_tot xs φ (fun n v => sIxType_L0 F xs (fun y0 => aev_AType_1 F y0 φ) n v) (fun _ _ => rfl) h hl F hF a b
theorem tot_evP {F : Nat} {xs : List APat} {φ : APat → Option Bool} (h : ∀ x ∈ xs, Tot (φ x)) (hl : xs.length ≤ maxLen) (hF : xs.length < F) (a b : Int) : Tot (aev_APat F xs a b φ) :=
 every_tot xs φ (fun n v => sIxPat_L0 F xs (fun y0 => aev_APat_1 F y0 φ) n v) (fun _ _ => rfl) h hl F hF a b
theorem tot_evE {F : Nat} {xs : List AExpr} {φ : AExpr → Option Bool} (h : ∀ x ∈ xs, Tot (φ x)) (hl : xs.length ≤ maxLen) (hF : xs.length < F) (a b : Int) : Tot (aev_AExpr F xs a b φ) :=
 every_tot xs φ (fun n v => sIxExpr_L0 F xs (fun y0 => aev_AExpr_1 F y0 φ) n v) (fun _ _ => rfl) h hl F hF a b
theorem tot_evA {F : Nat} {xs : List AArm} {φ : AArm → Option Bool} (h : ∀ x ∈ xs, Tot (φ x)) (hl : xs.length ≤ maxLen) (hF : xs.length < F) (a b : Int) : Tot (aev_AArm F xs a b φ) :=
 every_tot xs φ (fun n v => sIxArm_L0 F xs (fun y0 => aev_AArm_1 F y0 φ) n v) (fun _ _ => rfl) h hl F hF a b
theorem tot_evC {F : Nat} {xs : List ACon} {φ : ACon → Option Bool} (h : ∀ x ∈ xs, Tot (φ x)) (hl : xs.length ≤ maxLen) (hF : xs.length < F) (a b : Int) : Tot (aev_ACon F xs a b φ) :=
 every_tot xs φ (fun n v => sIxCon_L0 F xs (fun y0 => aev_ACon_1 F y0 φ) n v) (fun _ _ => rfl) h hl F hF a b
theorem tot_evD {F : Nat} {xs : List AData} {φ : AData → Option Bool} (h : ∀ x ∈ xs, Tot (φ x)) (hl : xs.length ≤ maxLen) (hF : xs.length < F) (a b : Int) : Tot (aev_AData F xs a b φ) :=
 every_tot xs φ (fun n v => sIxData_L0 F xs (fun y0 => aev_AData_1 F y0 φ) n v) (fun _ _ => rfl) h hl F hF a b
theorem tot_evF {F : Nat} {xs : List AFun} {φ : AFun → Option Bool} (h : ∀ x ∈ xs, Tot (φ x)) (hl : xs.length ≤ maxLen) (hF : xs.length < F) (a b : Int) : Tot (aev_AFun F xs a b φ) :=
 every_tot xs φ (fun n v => sIxFun_L0 F xs (fun y0 => aev_AFun_1 F y0 φ) n v) (fun _ _ => rfl) h hl F hF a b
theorem tot_evM {F : Nat} {xs : List AParam} {φ : AParam → Option Bool} (h : ∀ x ∈ xs, Tot (φ x)) (hl : xs.length ≤ maxLen) (hF : xs.length < F) (a b : Int) : Tot (aev_AParam F xs a b φ) :=
 every_tot xs φ (fun n v => sIxParam_L0 F xs (fun y0 => aev_AParam_1 F y0 φ) n v) (fun _ _ => rfl) h hl F hF a b
theorem tot_evH {F : Nat} {xs : List AHand} {φ : AHand → Option Bool} (h : ∀ x ∈ xs, Tot (φ x)) (hl : xs.length ≤ maxLen) (hF : xs.length < F) (a b : Int) : Tot (aev_AHand F xs a b φ) :=
 every_tot xs φ (fun n v => sIxHand_L0 F xs (fun y0 => aev_AHand_1 F y0 φ) n v) (fun _ _ => rfl) h hl F hF a b
theorem fitTt : ∀ t : AType, W26 t → Evt fun F => ∀ d : Int, d ≤ 64 → Tot (ad_fitType F d t)
 | ⟨kd, nm, parts⟩, hw => by
  obtain ⟨_, hnm, hl, hp⟩ := (W26_iff _).1 hw
  have ih : ∀ p ∈ parts, Evt fun F => ∀ d : Int, d ≤ 64 → Tot (ad_fitType F d p) := fun p hpm => fitTt p (hp p hpm)
  refine ((Evt.all ih).and ((nameF hnm).and (Evt.ge (parts.length + 1))) |>.succ).mono ?_
  rintro F ⟨F', rfl, h1, hn, h2⟩ d hd
  rw [ad_fitType, ad_fitType_B]
  by_cases hd1 : d < 1
  ·rw [decide_eq_true hd1]; exact .mk _
  obtain ⟨b1, e1⟩ := tot_declared F' hn
  obtain ⟨b2, e2⟩ := tot_evT (F := F') (xs := parts) (φ := fun y0 => ad_fitType F' (d - 1) y0) (fun x hx => h1 x hx (d - 1) (by omega)) hl (by omega) 2 6
  dsimp only at e1 e2 ⊢
  simp only [decide_eq_false hd1, wrapD hd1 hd, cond_false, joinM, e1, e2, Option.bind_some]
  cases kd == 0 <;> cases kd == 1 <;> cases kd == 2 <;> cases kd == 3 <;> cases (nm.toList == (⟨#[]⟩ : ByteArray).toList) <;> exact .mk _
termination_by t => t
decreasing_by
 have := List.sizeOf_lt_of_mem hpm
 simp only [AType.mk.sizeOf_spec]
 omega
theorem fitPt : ∀ t : APat, W39 t → Evt fun F => ∀ d : Int, d ≤ 64 → Tot (ad_fitPat F d t)
 | ⟨kd, at', nm, nu, kids⟩, hw => by
  obtain ⟨_, _, hnm, _, hl, hp⟩ := (W39_iff _).1 hw
  have ih : ∀ p ∈ kids, Evt fun F => ∀ d : Int, d ≤ 64 → Tot (ad_fitPat F d p) := fun p hpm => fitPt p (hp p hpm)
  refine ((Evt.all ih).and ((nameF hnm).and (Evt.ge (kids.length + 1))) |>.succ).mono ?_
  rintro F ⟨F', rfl, h1, hn, h2⟩ d hd
  rw [ad_fitPat, ad_fitPat_B]
  dsimp only at hn ⊢
  cases hc : (decide (d < 1)) || ((nu != 0) && (kd != 2)) with
  | true => exact .mk _
  | false =>
  have hd1 : ¬ d < 1 := by rw [Bool.or_eq_false_iff] at hc; simpa using hc.1
  obtain ⟨b1, e1⟩ := tot_small F' hn
  obtain ⟨b3, e3⟩ := tot_great F' hn
  have ev : ∀ a b, Tot (aev_APat F' kids a b (fun y0 => ad_fitPat F' (d - 1) y0)) := tot_evP (fun x hx => h1 x hx (d - 1) (by omega)) hl (by omega)
  have fin : ∀ (a b : Int) (v : Bool), Tot (bif v then ((aev_APat F' kids a b (fun y0 => ad_fitPat F' (d - 1) y0)).bind fun x16 => some x16) else some false) := fun a b v => by
   obtain ⟨r, hr⟩ := ev a b
   rw [hr]; cases v <;> exact .mk _
  simp only [wrapD hd1 hd, cond_false, joinM, e1, e3, ast_number, Option.bind_some]
  cases kd == 0 with
  | true => exact fin _ _ _
  | false =>
  cases kd == 1 with
  | true => exact fin _ _ _
  | false =>
  cases kd == 2 with
  | true => cases (nm.toList == (⟨#[]⟩ : ByteArray).toList) <;> first | exact fin _ _ _ | exact .mk _
  | false =>
  cases kd == 3 with
  | true => exact fin _ _ _
  | false =>
  cases kd == 4 with
  | true => exact fin _ _ _
  | false => exact .mk _
termination_by t => t
decreasing_by
 have := List.sizeOf_lt_of_mem hpm
 simp only [APat.mk.sizeOf_spec]
 omega
theorem tot_of (F : Nat) (e : AExpr) (hn : NameF e.Name F) : Tot (ast_of F e) := by
 obtain ⟨b1, e1⟩ := tot_small F hn
 obtain ⟨b2, e2⟩ := tot_great F hn
 obtain ⟨b3, e3⟩ := tot_called F hn
 have e4 : Tot (ast_args F e.Num) := by
  rw [ast_args]
  repeat' first | exact .mk _ | (rw [cond_eq_ite]; split)
 obtain ⟨b4, e4⟩ := e4
 rw [ast_of]
 simp only [e1, e2, e3, e4, ast_number, Option.bind_some]
 repeat' first | exact .mk _ | (rw [cond_eq_ite]; split)
theorem fitEt : ∀ t : AExpr, W33 t → Evt fun F => ∀ d : Int, d ≤ 64 → Tot (ad_fitExpr F d t)
 | ⟨kd, at', nu, bs, nm, kids, arms⟩, hw => by
  obtain ⟨_, _, _, _, hnm, ⟨hl, hp⟩, ha, hq⟩ := (W33_iff _).1 hw
  have ih1 : ∀ p ∈ kids, Evt fun F => ∀ d : Int, d ≤ 64 → Tot (ad_fitExpr F d p) := fun p hpm => fitEt p (hp p hpm)
  have ih2 : ∀ p ∈ arms, Evt fun F => (∀ d : Int, d ≤ 64 → Tot (ad_fitPat F d p.Pat)) ∧ (∀ d : Int, d ≤ 64 → Tot (ad_fitExpr F d p.Body)) := fun p hpa =>
   (fitPt p.Pat ((W68_iff _).1 (hq p hpa)).1).and (fitEt p.Body ((W68_iff _).1 (hq p hpa)).2)
  refine ((Evt.all ih1).and ((Evt.all ih2).succ.and ((nameF hnm).and ((Evt.ge (kids.length + 1)).and (Evt.ge (arms.length + 1))))) |>.succ).mono ?_
  rintro F ⟨F', rfl, h1, ⟨F'', e', h2⟩, hn, h3, h4⟩ d hd
  rw [ad_fitExpr, ad_fitExpr_B]
  obtain ⟨⟨sh, ok⟩, e1⟩ := tot_of F' ⟨kd, at', nu, bs, nm, kids, arms⟩ hn
  rw [e1, Option.bind_some]
  dsimp only
  by_cases hd1 : d < 1
  ·rw [decide_eq_true hd1]; simp only [Bool.true_or, cond_true]; exact .mk _
  obtain ⟨b1, g1⟩ := tot_evE (F := F') (xs := kids) (φ := fun y0 => ad_fitExpr F' (d - 1) y0) (fun x hx => h1 x hx (d - 1) (by omega)) hl (by omega) sh.least sh.top
  obtain ⟨b2, g2⟩ := tot_evA (F := F') (xs := arms) (φ := fun y0 => ad_fitArm F' (d - 1) y0) (fun x hx => by
   subst e'
   obtain ⟨c1, k1⟩ := (h2 x hx).1 (d - 1) (by omega)
   obtain ⟨c2, k2⟩ := (h2 x hx).2 (d - 1) (by omega)
   show Tot (ad_fitArm (F'' + 1) (d - 1) x)
   rw [ad_fitArm, ad_fitArm_B]
   simp only [joinM, k1, k2, Option.bind_some]
   cases c1 <;> exact .mk _) ha (by omega) 1 32
  simp only [wrapD hd1 hd, joinM, g1, g2, Option.bind_some]
  generalize (((((decide (d < 1)) || (!ok)) || ((!sh.named) && (!(nm.toList == (⟨#[]⟩ : ByteArray).toList)))) || ((!sh.numbered) && (nu != 0))) || ((!sh.bytes) && (decide (0 < (bs.length : Int))))) = z
  generalize ((!sh.arms) && (decide (0 < (arms.length : Int)))) = y
  cases z <;> cases y <;> cases sh.arms <;> cases b2 <;> exact .mk _
termination_by t => t
decreasing_by
 ·have := List.sizeOf_lt_of_mem hpm
  simp only [AExpr.mk.sizeOf_spec]
  omega
 ·have := List.sizeOf_lt_of_mem hpa
  have : SizeOf.sizeOf p.Body < SizeOf.sizeOf p := by cases p; simp only [AArm.mk.sizeOf_spec]; omega
  simp only [AExpr.mk.sizeOf_spec]
  omega
theorem topT (t : AType) (h : W26 t) : Evt fun F => Tot (ast_FitType F t) :=
 (fitTt t h).mono fun F g => by obtain ⟨b, hb⟩ := g 64 (by omega); rw [ast_FitType, hb]; exact .mk _
theorem topE (t : AExpr) (h : W33 t) : Evt fun F => Tot (ast_FitExpr F t) :=
 (fitEt t h).mono fun F g => by obtain ⟨b, hb⟩ := g 64 (by omega); rw [ast_FitExpr, hb]; exact .mk _
theorem fitCt (c : ACon) (hw : W92 c) : Evt fun F => Tot (ast_fitCon F c) := by
 obtain ⟨hn, hl, hp⟩ := hw
 refine ((Evt.all fun p hp' => topT p (hp p hp')).and ((nameF hn).and (Evt.ge (c.Fields.length + 1)))).mono ?_
 rintro F ⟨h1, h2, h3⟩
 obtain ⟨b1, e1⟩ := tot_great F h2
 obtain ⟨b2, e2⟩ := tot_evT (F := F) (xs := c.Fields) (φ := fun y0 => ast_FitType F y0) h1 hl (by omega) 0 6
 rw [ast_fitCon]
 simp only [joinM, e1, e2, Option.bind_some]
 cases b1 <;> exact .mk _
theorem fitDt (c : AData) (hw : W72 c) : Evt fun F => Tot (ast_fitData F c) := by
 obtain ⟨_, hn, hl, hp⟩ := hw
 refine ((Evt.all fun p hp' => fitCt p (hp p hp')).and ((nameF hn).and (Evt.ge (c.Cons.length + 1)))).mono ?_
 rintro F ⟨h1, h2, h3⟩
 obtain ⟨b1, e1⟩ := tot_declared F h2
 obtain ⟨b2, e2⟩ := tot_evC (F := F) (xs := c.Cons) (φ := fun y0 => ast_fitCon F y0) h1 (rl hl) (by omega) 1 16
 rw [ast_fitData]
 simp only [joinM, e1, e2, Option.bind_some]
 cases b1 <;> exact .mk _
theorem fitMt (c : AParam) (hw : W81 c) : Evt fun F => Tot (ast_fitParam F c) := by
 refine ((topT _ hw.2).and (nameF hw.1)).mono ?_
 rintro F ⟨⟨b2, e2⟩, h2⟩
 obtain ⟨b1, e1⟩ := tot_small F h2
 rw [ast_fitParam]
 simp only [joinM, e1, e2, Option.bind_some]
 cases b1 <;> exact .mk _
theorem fitFt (c : AFun) (hw : W77 c) : Evt fun F => Tot (ast_fitFun F c) := by
 obtain ⟨_, hn, ⟨hl, hp⟩, hr, hb⟩ := hw
 refine (((Evt.all fun p hp' => fitMt p (hp p hp')).and ((nameF hn).and (Evt.ge (c.Params.length + 1)))).and ((topT _ hr).and (topE _ hb))).mono ?_
 rintro F ⟨⟨h1, h2, h3⟩, ⟨b3, e3⟩, b4, e4⟩
 obtain ⟨b1, e1⟩ := tot_called F h2
 obtain ⟨b2, e2⟩ := tot_evM (F := F) (xs := c.Params) (φ := fun y0 => ast_fitParam F y0) h1 (rl hl) (by omega) 1 6
 rw [ast_fitFun]
 simp only [joinM, e1, e2, e3, e4, Option.bind_some]
 cases b1 <;> cases b2 <;> cases b3 <;> exact .mk _
theorem fitHt (c : AHand) (hw : W83 c) : Evt fun F => Tot (ast_fitHand F c) := by
 obtain ⟨_, hn, hp, _, hb⟩ := hw
 refine ((nameF hn).and ((fitMt _ hp).and (topE _ hb))).mono ?_
 rintro F ⟨h2, ⟨b3, e3⟩, b4, e4⟩
 obtain ⟨b1, e1⟩ := tot_small F h2
 rw [ast_fitHand]
 simp only [joinM, e1, e3, e4, Option.bind_some]
 cases b1 <;> cases b3 <;> cases (decide (0 ≤ c.Cap)) <;> cases (decide (c.Cap ≤ 64)) <;> exact .mk _
theorem fitGt (p : AProg) (hw : W36 p) : Evt fun F => Tot (ast_Fit F p) := by
 obtain ⟨⟨l1, w1⟩, ⟨l2, w2⟩, _, _, w3, _, w4, l3, w5⟩ := hw
 refine (((Evt.all fun x hx => fitDt x (w1 x hx)).and ((Evt.all fun x hx => fitFt x (w2 x hx)).and (Evt.all fun x hx => fitHt x (w5 x hx)))).and (((topT _ w3).and (topE _ w4)).and ((Evt.ge (p.Datas.length + 1)).and ((Evt.ge (p.Funs.length + 1)).and (Evt.ge (p.Hands.length + 1)))))).mono ?_
 rintro F ⟨⟨a1, a2, a3⟩, ⟨⟨b1, e1⟩, b2, e2⟩, f1, f2, f3⟩
 obtain ⟨c1, g1⟩ := tot_evD (F := F) (xs := p.Datas) (φ := fun y0 => ast_fitData F y0) a1 (rl l1) (by omega) 0 32
 obtain ⟨c2, g2⟩ := tot_evF (F := F) (xs := p.Funs) (φ := fun y0 => ast_fitFun F y0) a2 (rl l2) (by omega) 0 48
 obtain ⟨c3, g3⟩ := tot_evH (F := F) (xs := p.Hands) (φ := fun y0 => ast_fitHand F y0) a3 (rl l3) (by omega) 0 16
 rw [ast_Fit]
 simp only [joinM, e1, e2, g1, g2, g3, Option.bind_some]
 generalize ((((((decide (p.Queue < 1)) || (decide (32 < p.Queue))) || (decide (p.Timers < 0))) || (decide (32 < p.Timers))) || (decide (p.Cap < 0))) || (decide (256 < p.Cap))) = z
 cases z <;> cases b1 <;> cases b2 <;> cases c1 <;> cases c2 <;> exact .mk _
end Go.Proofs.YtappiofmkoelnaaGreatDoor.M
end
section
namespace Go.Proofs.YtappiofmkoelnaaGreatDoor.M
open Go.Proofs.YtappiofmkoelnaaGreatDoorW.Ah Go.Proofs.YtappiofmkoelnaaGreatDoor
set_option linter.unusedVariables false
theorem eq_of {a b : Bool} {P Q : Prop} (h : a = true ↔ P) (g : b = true ↔ Q) (e : P ↔ Q) : a = b := by
 rw [Bool.eq_iff_iff]; exact h.trans (e.trans g.symm)
theorem holds_AstSame (x0 : AProg) (x1 : AProg) (x2 : AProg) (w0 : W36 x0) (w1 : W36 x1) (w2 : W36 x2) : ∃ F, L04_AstSame F x0 x1 x2 = some true := by
 obtain ⟨s1, s2, s3⟩ := bareG_fine x0 w0
 by_cases hs : szG x0 ≤ 3000
 ·have hs' : szG (bareG x0) ≤ 1048576 := by omega
  refine Evt.ex ((((lightProg_ok x0 w0 3000 (by decide) (by decide)).and ((lightProg_ok x1 w1 3000 (by decide) (by decide)).and (lightProg_ok x2 w2 3000 (by decide) (by decide)))).and
   (((bareGok x0 (by omega)).and (bareGok (bareG x0) hs')).and ((sameG x0 w0).and ((sameG (bareG x0) s3).and (sameG x1 w1))))).and ((selfG (bareG x0) s3).and ((calmG x0 w0).and (fitGt x0 w0))) |>.mono ?_)
  rintro F ⟨⟨⟨⟨r0, g0, _⟩, ⟨r1, g1, _⟩, r2, g2, _⟩, ⟨b1, b2⟩, c1, c2, c3⟩, d1, d2, fb, d3⟩
  obtain ⟨t1, h1, i1⟩ := c1 (bareG x0)
  obtain ⟨t2, h2, i2⟩ := c2 x0
  obtain ⟨t3, h3, i3⟩ := c1 x1
  obtain ⟨t4, h4, i4⟩ := c3 x0
  obtain ⟨t5, h5, i5⟩ := c3 x2
  obtain ⟨t6, h6, i6⟩ := c1 x2
  have j1 : t1 = true := i1.2 s2.symm
  have j2 : t2 = true := i2.2 s2
  have j3 : t3 = t4 := eq_of i3 i4 ⟨Eq.symm, Eq.symm⟩
  have j4 : t3 = true → t5 = true → t6 = true := fun a b => i6.2 ((i3.1 a).trans (i5.1 b))
  subst j1 j2 j3
  rw [s2] at b2
  rw [L04_AstSame, L04_light, L04_light, L04_light]
  simp only [joinM, L04_awake, g0, g1, g2, b1, b2, h1, h2, h3, h4, h5, h6, d1, d2, d3, fitGm, Option.bind_some, beq_self_eq_true]
  cases !decide (0 ≤ r0) <;> cases !decide (0 ≤ r1) <;> cases !decide (0 ≤ r2) <;> try rfl
  cases t3 <;> cases t5 <;> try rfl
  rw [j4 rfl rfl]; rfl
 ·refine Evt.ex ((lightProg_ok x0 w0 3000 (by decide) (by decide)).mono ?_)
  rintro F ⟨r0, g0, h0⟩
  rw [L04_AstSame, L04_light, g0]
  have : decide (0 ≤ r0) = false := by
   rw [decide_eq_false_iff_not]; intro h; have := h0 h; omega
  simp only [joinM, L04_awake, Option.bind_some, this, Bool.not_false, cond_true]
end Go.Proofs.YtappiofmkoelnaaGreatDoor.M
end
section
namespace Go.Proofs.YtappiofmkoelnaaGreatDoor
open Go.Proofs.YtappiofmkoelnaaGreatDoorW.Ah
set_option linter.unusedVariables false
theorem Pure.AstSame (l : List AV) (h : TypAs T.T [36, 36, 36] l) : RunF Tryz.prog T.T 6 l (B true) := by
 cases h with
 | cons a0 h =>
  cases h with
  | cons a1 h =>
   cases h with
   | cons a2 h =>
    cases h with
    | nil =>
     obtain ⟨x0, rfl, w0⟩ := M.oa36 _ a0
     obtain ⟨x1, rfl, w1⟩ := M.oa36 _ a1
     obtain ⟨x2, rfl, w2⟩ := M.oa36 _ a2
     obtain ⟨F, hF⟩ := M.holds_AstSame x0 x1 x2 w0 w1 w2
     exact M.ok_L04_AstSame F x0 x1 x2 true hF
end Go.Proofs.YtappiofmkoelnaaGreatDoor
end
