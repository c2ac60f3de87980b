/-
  For AstFits: texts of the road to it, 12 of 16.
-/
import Derived.Test.YtappiofmkoelnaaGreatDoorKAstFits10
import Derived.Test.YtappiofmkoelnaaGreatDoorRows
import Derived.Lib.LaidU8T
import Derived.PinnedBridge
section
namespace Go.Proofs.YtappiofmkoelnaaGreatDoorW.Ah
open Go.Lib Go.Shelf Go.RowKit Go.Proofs.YtappiofmkoelnaaGreatDoor
set_option linter.unusedVariables false
set_option linter.unusedSimpArgs false
theorem Ext.below {E : Env} {w' : World} (hb : Below E.w.heap.size E.w w') : Ext E { E with w := w' } :=
  ⟨rfl, Nat.le_refl _, hb.os, hb.tape, hb.output, hb.size, fun b hlt _ => hb.block b hlt, fun _ _ _ h => h, fun j l h => .inr ⟨j, l, h, rfl⟩, fun b r hr => ⟨r, (hb.block b (lt_of_block hr)).trans hr⟩⟩
theorem Ret.below {P : Program} {E : Env} {H : Nat → Option Blk} {n : Nat} {w' : World} {r : AV} {v : Value} (hH : RepH P E H) (hX : Xb E) (hN : E.N = n) (hb : Below E.w.heap.size E.w w') (hr : RepV { E with w := w' } r v) : Ret P E r H n (.returned v) w' := by
  have hx := Ext.below hb
  refine ⟨{ E with w := w' }, v, rfl, rfl, hx, ⟨fun i blk hi => ?_, fun i l hl => ?_, hH.inj, hH.glob.ext hx⟩, fun b hb' => Nat.lt_of_lt_of_le (hX b hb') hb.size, hN, hr⟩
  · obtain ⟨l, hl, hr⟩ := hH.own i blk hi
    exact ⟨l, hl, RepB.ext hx (hb.block _ (hH.lt i l hl).2.1) hr⟩
  · obtain ⟨h1, h2, h3, h4⟩ := hH.lt i l hl
    exact ⟨h1, Nat.lt_of_lt_of_le h2 hb.size, h3, h4⟩
theorem u8X : U8Extra Tryz.prog lays196_ren := ⟨by kernel_rfl, by kernel_rfl, by kernel_rfl, by kernel_rfl, by kernel_rfl, by kernel_rfl, by kernel_rfl⟩
theorem tabs_of {E : Env} (h : GlobOk E) : Utf8Tabs (lays196_ren.g 3) (lays196_ren.g 4) E.w := by
  refine ⟨fun c hc => ?_, fun i hi => ?_⟩
  · obtain ⟨_, cells, ty, fz, h1, h2⟩ := h (lays196_ren.g 3) _ (List.mem_cons_self ..)
    have := h2 c hc
    simp only [World.cell?, h1]
    simpa using this
  · obtain ⟨_, cells, ty, fz, h1, h2⟩ := h (lays196_ren.g 4) _ (List.mem_cons_of_mem _ (List.mem_cons_self ..))
    have := h2 i hi
    simp only [World.cell?, h1]
    simpa using this
theorem gok {W : World} (h : laidMet Tryz.prog [("unicode/utf8.acceptRanges", Rows.laid_unicode_utf8_acceptRanges), ("unicode/utf8.first", Rows.laid_unicode_utf8_first)] W) : GlobOk (env0 W) := by
  have h3 : VarReads Tryz.prog W "unicode/utf8.first" firstData := by
    have := laidMet.reads h (n := "unicode/utf8.first") (d := Rows.laid_unicode_utf8_first) (by simp)
    rwa [show Rows.laid_unicode_utf8_first = firstData from Pinned.utf8First_eq] at this
  have h4 : VarReads Tryz.prog W "unicode/utf8.acceptRanges" acceptData := by
    have := laidMet.reads h (n := "unicode/utf8.acceptRanges") (d := Rows.laid_unicode_utf8_acceptRanges) (by simp)
    rwa [show (Rows.laid_unicode_utf8_acceptRanges : DataW Unit) = acceptData from by kernel_rfl] at this
  have ht := utf8Tabs_of_readsT (U8Types.of196 lays196) u8X h3 h4
  have key : ∀ {n : String} {d : DataW Unit} {g : Nat}, VarReads Tryz.prog W n d → Tryz.prog.globalNamed n = some g → ∃ cells ty fz, W.heap[g]? = some (.cells cells ty fz) := by
    intro n d g hv hg
    obtain ⟨g', t, cs, fuel, p, hg', hty, hvar, hd⟩ := hv
    rw [hg] at hg'; cases hg'
    simp only [World.var?, hg, Option.bind_some] at hvar
    split at hvar
    · rename_i c t fr hb; exact ⟨c, t, fr, hb⟩
    · cases hvar
  have sh : ∀ b, (env0 W).shared b := fun b => ⟨fun h => h.elim, fun i l hl => by cases hl⟩
  intro g p hm
  rcases List.mem_cons.1 hm with e | hm
  · cases e
    obtain ⟨cells, ty, fz, hb⟩ := key h3 u8X.n3
    refine ⟨sh _, cells, ty, fz, hb, fun c hc => ?_⟩
    have := ht.1 c hc
    simp only [World.cell?, show W.heap[lays196_ren.g 3]? = _ from hb] at this
    simpa using this
  · rcases List.mem_cons.1 hm with e | hm
    · cases e
      obtain ⟨cells, ty, fz, hb⟩ := key h4 u8X.n4
      refine ⟨sh _, cells, ty, fz, hb, fun i hi => ?_⟩
      have := ht.2 i hi
      simp only [World.cell?, show W.heap[lays196_ren.g 4]? = _ from hb] at this
      simpa using this
    · cases hm
theorem validString_run (s : ByteArray) (hs : s.size ≤ maxLen) : RunF Tryz.prog T.T (lays196_ren.f 196) [.sc (.string s)] (.sc (.bool (validD s.data.toList))) := by
  refine ⟨fun _ => none, 0, .sem lays196.f196 rfl (by kernel_rfl) fun E vs hH hX hN hargs hlen => ?_⟩
  obtain ⟨v, rfl⟩ : ∃ v, vs = #[v] := by
    rcases vs with ⟨l⟩
    match l, hlen with
    | [v], _ => exact ⟨v, rfl⟩
  simp only [RepL] at hargs
  have hv := RepV.sc_inv hargs.1
  subst hv
  refine (Any.utf8_ValidString lays196 s E.w (Nat.le_trans hs (by decide)) (tabs_of hH.glob)).mono fun e w' he => ?_
  obtain ⟨rfl, hb⟩ := he
  exact Ret.below hH hX hN hb (by simp [RepV])
end Go.Proofs.YtappiofmkoelnaaGreatDoorW.Ah
end
section
namespace Go.Proofs.YtappiofmkoelnaaGreatDoor.M
open Go.Proofs.YtappiofmkoelnaaGreatDoorW.Ah Go.Proofs.YtappiofmkoelnaaGreatDoor
set_option linter.unusedVariables false
set_option linter.unusedSimpArgs false
set_option maxRecDepth 8000
def R04_LightType_L0 (F : Nat) (ρ10 : api_Type → Int → Option Int) (a0 : api_Type) : Nat → Int → Int → Option Int
 | 0, _, _ => none
 | m + 1, v2, v3 =>
 bif ((decide (v3 < (a0.Parts.length : Int))) && (decide (0 ≤ v2))) then ((idx a0.Parts v3).bind fun x7 =>
 (ρ10 x7 v2).bind fun x8 =>
 R04_LightType_L0 F ρ10 a0 m x8 (IntKind.i64.wrap (v3 + 1)))
 else (some v2)
def R04_LightType_B (F : Nat) (ρ10 : api_Type → Int → Option Int) (a0 : api_Type) (a1 : Int) : Option Int :=
 R04_LightType_L0 F ρ10 a0 F (IntKind.i64.wrap ((IntKind.i64.wrap (a1 - 1)) - (if 1048576 < (a0.Name.size : Int) then 1048576 else (a0.Name.size : Int)))) 0
def R04_LightType : Nat → api_Type → Int → Option Int
 | 0, _, _ => none
 | F + 1, a0, a1 => R04_LightType_B F (R04_LightType F) a0 a1
def R04_LightPat_L0 (F : Nat) (ρ9 : api_Pat → Int → Option Int) (a0 : api_Pat) : Nat → Int → Int → Option Int
 | 0, _, _ => none
 | m + 1, v2, v3 =>
 bif ((decide (v3 < (a0.Kids.length : Int))) && (decide (0 ≤ v2))) then ((idx a0.Kids v3).bind fun x7 =>
 (ρ9 x7 v2).bind fun x8 =>
 R04_LightPat_L0 F ρ9 a0 m x8 (IntKind.i64.wrap (v3 + 1)))
 else (some v2)
def R04_LightPat_B (F : Nat) (ρ9 : api_Pat → Int → Option Int) (a0 : api_Pat) (a1 : Int) : Option Int :=
 R04_LightPat_L0 F ρ9 a0 F (IntKind.i64.wrap ((IntKind.i64.wrap (a1 - 1)) - (if 1048576 < (a0.Name.size : Int) then 1048576 else (a0.Name.size : Int)))) 0
def R04_LightPat : Nat → api_Pat → Int → Option Int
 | 0, _, _ => none
 | F + 1, a0, a1 => R04_LightPat_B F (R04_LightPat F) a0 a1
def R04_Light_L1 (F : Nat) (ρ8 : api_Expr → Int → Option Int) (a0 : api_Expr) : Nat → Int → Int → Option Int
 | 0, _, _ => none
 | m + 1, v10, v11 =>
 bif ((decide (v11 < (a0.Arms.length : Int))) && (decide (0 ≤ v10))) then ((idx a0.Arms v11).bind fun x15 =>
 (R04_LightPat F x15.Pat v10).bind fun x16 =>
 (ρ8 x15.Body x16).bind fun x17 =>
 R04_Light_L1 F ρ8 a0 m x17 (IntKind.i64.wrap (v11 + 1)))
 else (some v10)
def R04_Light_L0 (F : Nat) (ρ8 : api_Expr → Int → Option Int) (a0 : api_Expr) (K1 : Int → Option Int) : Nat → Int → Int → Option Int
 | 0, _, _ => none
 | m + 1, v3, v4 =>
 bif ((decide (v4 < (a0.Kids.length : Int))) && (decide (0 ≤ v3))) then ((idx a0.Kids v4).bind fun x8 =>
 (ρ8 x8 v3).bind fun x9 =>
 R04_Light_L0 F ρ8 a0 K1 m x9 (IntKind.i64.wrap (v4 + 1)))
 else (K1 v3)
def R04_Light_B (F : Nat) (ρ8 : api_Expr → Int → Option Int) (a0 : api_Expr) (a1 : Int) : Option Int :=
 joinM (fun (v2 : Int) =>
 R04_Light_L1 F ρ8 a0 F v2 0) fun K1 =>
 R04_Light_L0 F ρ8 a0 K1 F (IntKind.i64.wrap ((IntKind.i64.wrap ((IntKind.i64.wrap (a1 - 1)) - (if 1048576 < (a0.Bytes.length : Int) then 1048576 else (a0.Bytes.length : Int)))) - (if 1048576 < (a0.Name.size : Int) then 1048576 else (a0.Name.size : Int)))) 0
def R04_Light : Nat → api_Expr → Int → Option Int
 | 0, _, _ => none
 | F + 1, a0, a1 => R04_Light_B F (R04_Light F) a0 a1
def R04_LightProg_L4 (F : Nat) (a0 : api_Prog) : Nat → Int → Int → Option Int
 | 0, _, _ => none
 | m + 1, v39, v40 =>
 bif ((decide (v40 < (a0.Hands.length : Int))) && (decide (0 ≤ v39))) then ((idx a0.Hands v40).bind fun x44 =>
 (R04_LightType F x44.Param.Type_ (IntKind.i64.wrap ((IntKind.i64.wrap ((IntKind.i64.wrap (v39 - 1)) - (if 1048576 < (x44.Name.size : Int) then 1048576 else (x44.Name.size : Int)))) - (if 1048576 < (x44.Param.Name.size : Int) then 1048576 else (x44.Param.Name.size : Int))))).bind fun x46 =>
 (R04_Light F x44.Body x46).bind fun x47 =>
 R04_LightProg_L4 F a0 m x47 (IntKind.i64.wrap (v40 + 1)))
 else (some v39)
def R04_LightProg_L3 (F : Nat) (x27 : api_Fun) (K7 : Int → Option Int) : Nat → Int → Int → Option Int
 | 0, _, _ => none
 | m + 1, v32, v33 =>
 bif ((decide (v33 < (x27.Params.length : Int))) && (decide (0 ≤ v32))) then ((idx x27.Params v33).bind fun x37 =>
 (R04_LightType F x37.Type_ (IntKind.i64.wrap (v32 - (if 1048576 < (x37.Name.size : Int) then 1048576 else (x37.Name.size : Int))))).bind fun x38 =>
 R04_LightProg_L3 F x27 K7 m x38 (IntKind.i64.wrap (v33 + 1)))
 else (K7 v32)
def R04_LightProg_L2 (F : Nat) (a0 : api_Prog) (K5 : Int → Option Int) : Nat → Int → Int → Option Int
 | 0, _, _ => none
 | m + 1, v22, v23 =>
 bif ((decide (v23 < (a0.Funs.length : Int))) && (decide (0 ≤ v22))) then ((idx a0.Funs v23).bind fun x27 =>
 (R04_LightType F x27.Result (IntKind.i64.wrap ((IntKind.i64.wrap (v22 - 1)) - (if 1048576 < (x27.Name.size : Int) then 1048576 else (x27.Name.size : Int))))).bind fun x29 =>
 (R04_Light F x27.Body x29).bind fun x30 =>
 joinM (fun (v31 : Int) =>
 R04_LightProg_L2 F a0 K5 m v31 (IntKind.i64.wrap (v23 + 1))) fun K7 =>
 R04_LightProg_L3 F x27 K7 F x30 0)
 else (K5 v22)
def R04_LightProg_L1 (F : Nat) (a0 : api_Prog) (v6 : Int) (K3 : Int → Option Int) : Nat → Int → Int → Option Int
 | 0, _, _ => none
 | m + 1, v12, v13 =>
 (idx a0.Datas v6).bind fun x16 =>
 bif ((decide (v13 < (x16.Cons.length : Int))) && (decide (0 ≤ v12))) then ((idx a0.Datas v6).bind fun x18 =>
 (idx x18.Cons v13).bind fun x19 =>
 (R04_LightType F (api_Type.mk 0 x19.Name x19.Fields) v12).bind fun x20 =>
 R04_LightProg_L1 F a0 v6 K3 m x20 (IntKind.i64.wrap (v13 + 1)))
 else (K3 v12)
def R04_LightProg_L0 (F : Nat) (a0 : api_Prog) (K1 : Int → Option Int) : Nat → Int → Int → Option Int
 | 0, _, _ => none
 | m + 1, v5, v6 =>
 bif ((decide (v6 < (a0.Datas.length : Int))) && (decide (0 ≤ v5))) then ((idx a0.Datas v6).bind fun x10 =>
 joinM (fun (v11 : Int) =>
 R04_LightProg_L0 F a0 K1 m v11 (IntKind.i64.wrap (v6 + 1))) fun K3 =>
 R04_LightProg_L1 F a0 v6 K3 F (IntKind.i64.wrap ((IntKind.i64.wrap (v5 - 1)) - (if 1048576 < (x10.Name.size : Int) then 1048576 else (x10.Name.size : Int)))) 0)
 else (K1 v5)
def R04_LightProg (F : Nat) (a0 : api_Prog) (a1 : Int) : Option Int :=
 (R04_LightType F a0.State a1).bind fun x2 =>
 (R04_Light F a0.Init x2).bind fun x3 =>
 joinM (fun (v4 : Int) =>
 joinM (fun (v21 : Int) =>
 R04_LightProg_L4 F a0 F v21 0) fun K5 =>
 R04_LightProg_L2 F a0 K5 F v4 0) fun K1 =>
 R04_LightProg_L0 F a0 K1 F x3 0
def L04_light (F : Nat) (a0 : api_Prog) : Option Bool :=
 (R04_LightProg F a0 3000).bind fun x2 =>
 some (decide (0 ≤ x2))
def L04_awake (F : Nat) : Option Bool := some true
def lex_Word (F : Nat) (a0 : ByteArray) : Option Bool :=
 bif (a0.toList == (⟨#[99, 97, 112]⟩ : ByteArray).toList) then (some true)
 else (bif (a0.toList == (⟨#[100, 111]⟩ : ByteArray).toList) then (some true)
 else (bif (a0.toList == (⟨#[101, 108, 115, 101]⟩ : ByteArray).toList) then (some true)
 else (bif (a0.toList == (⟨#[101, 110, 100]⟩ : ByteArray).toList) then (some true)
 else (bif (a0.toList == (⟨#[102, 111, 114]⟩ : ByteArray).toList) then (some true)
 else (bif (a0.toList == (⟨#[102, 117, 110]⟩ : ByteArray).toList) then (some true)
 else (bif (a0.toList == (⟨#[105, 102]⟩ : ByteArray).toList) then (some true)
 else (bif (a0.toList == (⟨#[105, 110]⟩ : ByteArray).toList) then (some true)
 else (bif (a0.toList == (⟨#[108, 101, 116]⟩ : ByteArray).toList) then (some true)
 else (bif (a0.toList == (⟨#[109, 97, 116, 99, 104]⟩ : ByteArray).toList) then (some true)
 else (bif (a0.toList == (⟨#[111, 102]⟩ : ByteArray).toList) then (some true)
 else (bif (a0.toList == (⟨#[111, 110]⟩ : ByteArray).toList) then (some true)
 else (bif (a0.toList == (⟨#[113, 117, 101, 117, 101]⟩ : ByteArray).toList) then (some true)
 else (bif (a0.toList == (⟨#[115, 116, 97, 116, 101]⟩ : ByteArray).toList) then (some true)
 else (bif (a0.toList == (⟨#[116, 104, 101, 110]⟩ : ByteArray).toList) then (some true)
 else (bif (a0.toList == (⟨#[116, 105, 109, 101, 114, 115]⟩ : ByteArray).toList) then (some true)
 else (bif (a0.toList == (⟨#[116, 121, 112, 101]⟩ : ByteArray).toList) then (some true)
 else (bif (a0.toList == (⟨#[119, 105, 116, 104]⟩ : ByteArray).toList) then (some true)
 else (some false))))))))))))))))))
def unicode_utf8_ValidString (F : Nat) (a0 : ByteArray) : Option Bool := bif decide (a0.size ≤ maxLen) then some (Lib.validD a0.data.toList) else none
def unicode_utf8_RuneCountInString_L0 (F : Nat) (a0 : ByteArray) : Nat → Int → Nat → Option Int
 | 0, _, _ => none
 | m + 1, v2, v3 =>
 bif decide (v3 < a0.size) then (unicode_utf8_RuneCountInString_L0 F a0 m (IntKind.i64.wrap (v2 + 1)) (v3 + (Utf8.decode a0 v3).2))
 else (some v2)
def unicode_utf8_RuneCountInString (F : Nat) (a0 : ByteArray) : Option Int :=
 unicode_utf8_RuneCountInString_L0 F a0 F 0 0
def unicode_utf8_ValidRune (F : Nat) (a0 : Int) : Option Bool :=
 bif ((decide (0 ≤ a0)) && (decide (a0 < 55296))) then (some true)
 else (bif ((decide (57343 < a0)) && (decide (a0 ≤ 1114111))) then (some true)
 else (some false))
def runes_Low (F : Nat) (a0 : Int) : Option Bool :=
 joinM (fun (v1 : Bool) =>
 some v1) fun K1 =>
 bif ((decide (97 ≤ a0)) && (decide (a0 ≤ 122))) then (K1 true)
 else (joinM (fun (v2 : Bool) =>
 K1 v2) fun K2 =>
 bif (decide (128 ≤ a0)) then ((unicode_utf8_ValidRune F a0).bind fun x3 =>
 K2 x3)
 else (K2 false))
def runes_Up (F : Nat) (a0 : Int) : Option Bool :=
 some ((decide (65 ≤ a0)) && (decide (a0 ≤ 90)))
def runes_Digit (F : Nat) (a0 : Int) : Option Bool :=
 some ((decide (48 ≤ a0)) && (decide (a0 ≤ 57)))
def lex_part (F : Nat) (a0 : Int) : Option Bool :=
 (runes_Low F a0).bind fun x1 =>
 joinM (fun (v2 : Bool) =>
 joinM (fun (v4 : Bool) =>
 some (v4 || (a0 == 95))) fun K2 =>
 bif v2 then (K2 true)
 else ((runes_Digit F a0).bind fun x5 =>
 K2 x5)) fun K1 =>
 bif x1 then (K1 true)
 else ((runes_Up F a0).bind fun x3 =>
 K1 x3)
def lex_Named_L0 (F : Nat) (a0 : ByteArray) (a1 : Bool) : Nat → Nat → Option Bool
 | 0, _ => none
 | m + 1, v9 =>
 bif decide (v9 < a0.size) then ((lex_part F ((Utf8.decode a0 v9).1 : Int)).bind fun x12 =>
 joinM (fun (v13 : Bool) =>
 bif v13 then (some false)
 else (lex_Named_L0 F a0 a1 m (v9 + (Utf8.decode a0 v9).2))) fun K5 =>
 bif (!x12) then (K5 true)
 else (joinM (fun (v14 : Bool) =>
 K5 v14) fun K6 =>
 bif ((v9 : Int) == 0) then (joinM (fun (v15 : Bool) =>
 joinM (fun (v17 : Bool) =>
 K6 v17) fun K8 =>
 bif v15 then (K8 true)
 else (joinM (fun (v18 : Bool) =>
 K8 v18) fun K9 =>
 bif (!a1) then ((runes_Low F ((Utf8.decode a0 v9).1 : Int)).bind fun x19 =>
 K9 (!x19))
 else (K9 false))) fun K7 =>
 bif a1 then ((runes_Up F ((Utf8.decode a0 v9).1 : Int)).bind fun x16 =>
 K7 (!x16))
 else (K7 false))
 else (K6 false)))
 else (some true)
def lex_Named (F : Nat) (a0 : ByteArray) (a1 : Bool) : Option Bool :=
 joinM (fun (v1 : Bool) =>
 joinM (fun (v3 : Bool) =>
 joinM (fun (v5 : Bool) =>
 bif v5 then (some false)
 else (lex_Named_L0 F a0 a1 F 0)) fun K3 =>
 bif v3 then (K3 true)
 else ((unicode_utf8_RuneCountInString F a0).bind fun x6 =>
 K3 (decide (24 < x6)))) fun K2 =>
 bif v1 then (K2 true)
 else ((unicode_utf8_ValidString F a0).bind fun x4 =>
 K2 (!x4))) fun K1 =>
 bif (a0.toList == (⟨#[]⟩ : ByteArray).toList) then (K1 true)
 else ((lex_Word F a0).bind fun x2 =>
 K1 x2)
def ast_small (F : Nat) (a0 : ByteArray) : Option Bool :=
 (lex_Named F a0 false).bind fun x1 =>
 some x1
def ast_declared (F : Nat) (a0 : ByteArray) : Option Bool :=
 (ast_small F a0).bind fun x1 =>
 some ((x1 && (!(a0.toList == (⟨#[105, 110, 116]⟩ : ByteArray).toList))) && (!(a0.toList == (⟨#[98, 121, 116, 101, 115]⟩ : ByteArray).toList)))
def slices_IndexFunc_api_Type_api_Type_L0 (F : Nat) (a0 : (List api_Type)) (φ1 : api_Type → Option Bool) : Nat → Int → Option Int
 | 0, _ => none
 | m + 1, v1 =>
 bif (decide (v1 < (a0.length : Int))) then ((idx a0 v1).bind fun x4 =>
 (φ1 x4).bind fun x5 =>
 bif x5 then (some v1)
 else (slices_IndexFunc_api_Type_api_Type_L0 F a0 φ1 m (IntKind.i64.wrap (v1 + 1))))
 else (some (-1))
def slices_IndexFunc_api_Type_api_Type (F : Nat) (a0 : (List api_Type)) (φ1 : api_Type → Option Bool) : Option Int :=
 slices_IndexFunc_api_Type_api_Type_L0 F a0 φ1 F 0
def slices_ContainsFunc_api_Type_api_Type (F : Nat) (a0 : (List api_Type)) (φ1 : api_Type → Option Bool) : Option Bool :=
 (slices_IndexFunc_api_Type_api_Type F a0 φ1).bind fun x1 =>
 some (decide (0 ≤ x1))
def ast_every_api_Type_1 (F : Nat) (a0 : api_Type) (φ1 : api_Type → Option Bool) : Option Bool :=
 (φ1 a0).bind fun x2 =>
 some (!x2)
def ast_every_api_Type (F : Nat) (a0 : (List api_Type)) (a1 : Int) (a2 : Int) (φ3 : api_Type → Option Bool) : Option Bool :=
 joinM (fun (v2 : Bool) =>
 some v2) fun K1 =>
 bif ((decide (a1 ≤ (a0.length : Int))) && (decide ((a0.length : Int) ≤ a2))) then ((slices_ContainsFunc_api_Type_api_Type F a0 (fun y0 => ast_every_api_Type_1 F y0 φ3)).bind fun x3 =>
 K1 (!x3))
 else (K1 false)
def ast_depth_fitType_B (F : Nat) (ρ51 : Int → api_Type → Option Bool) (a0 : Int) (a1 : api_Type) : Option Bool :=
 bif (decide (a0 < 1)) then (some false)
 else (joinM (fun (v3 : Bool) =>
 bif v3 then (some ((a1.Name.toList == (⟨#[]⟩ : ByteArray).toList) && ((a1.Parts.length : Int) == 0)))
 else (bif (a1.Kind == 2) then ((ast_declared F a1.Name).bind fun x7 =>
 some (x7 && ((a1.Parts.length : Int) == 0)))
 else (bif (a1.Kind == 3) then (joinM (fun (v9 : Bool) =>
 some v9) fun K2 =>
 bif (a1.Name.toList == (⟨#[]⟩ : ByteArray).toList) then ((ast_every_api_Type F a1.Parts 2 6 (fun y0 => ρ51 (IntKind.i64.wrap (a0 - 1)) y0)).bind fun x10 =>
 K2 x10)
 else (K2 false))
 else (some false)))) fun K1 =>
 bif (a1.Kind == 0) then (K1 (a1.Kind == 0))
 else (K1 (a1.Kind == 1)))
def ast_depth_fitType : Nat → Int → api_Type → Option Bool
 | 0, _, _ => none
 | F + 1, a0, a1 => ast_depth_fitType_B F (ast_depth_fitType F) a0 a1
def ast_FitType (F : Nat) (a0 : api_Type) : Option Bool :=
 (ast_depth_fitType F 64 a0).bind fun x2 =>
 some x2
def ast_number (F : Nat) (a0 : Int) : Option Bool :=
 some ((decide (a0 ≤ 4611686018427387903)) && (decide ((-4611686018427387903) ≤ a0)))
def ast_great (F : Nat) (a0 : ByteArray) : Option Bool :=
 (lex_Named F a0 true).bind fun x1 =>
 some x1
def ast_called (F : Nat) (a0 : ByteArray) : Option Bool :=
 joinM (fun (v1 : Bool) =>
 bif v1 then (some false)
 else ((ast_small F a0).bind fun x8 =>
 some x8)) fun K1 =>
 bif (a0.toList == (⟨#[105, 110, 116]⟩ : ByteArray).toList) then (K1 (a0.toList == (⟨#[105, 110, 116]⟩ : ByteArray).toList))
 else (bif (a0.toList == (⟨#[98, 121, 116, 101, 115]⟩ : ByteArray).toList) then (K1 (a0.toList == (⟨#[98, 121, 116, 101, 115]⟩ : ByteArray).toList))
 else (bif (a0.toList == (⟨#[108, 101, 110]⟩ : ByteArray).toList) then (K1 (a0.toList == (⟨#[108, 101, 110]⟩ : ByteArray).toList))
 else (bif (a0.toList == (⟨#[97, 116]⟩ : ByteArray).toList) then (K1 (a0.toList == (⟨#[97, 116]⟩ : ByteArray).toList))
 else (bif (a0.toList == (⟨#[99, 97, 116]⟩ : ByteArray).toList) then (K1 (a0.toList == (⟨#[99, 97, 116]⟩ : ByteArray).toList))
 else (K1 (a0.toList == (⟨#[99, 117, 116]⟩ : ByteArray).toList))))))
def ast_args (F : Nat) (a0 : Int) : Option Int :=
 bif (a0 == 8) then (some 1)
 else (bif (a0 == 11) then (some 3)
 else (some 2))
def ast_of (F : Nat) (a0 : api_Expr) : Option (ast_shape × Bool) :=
 bif (a0.Kind == 0) then ((ast_number F a0.Num).bind fun x4 =>
 some ((ast_shape.mk false true false 0 0 false), x4))
 else (bif (a0.Kind == 1) then (some ((ast_shape.mk false false true 0 0 false), decide ((a0.Bytes.length : Int) ≤ 64)))
 else (bif (a0.Kind == 2) then ((ast_small F a0.Name).bind fun x7 =>
 some ((ast_shape.mk true false false 0 0 false), (x7 || (a0.Name.toList == (⟨#[115, 116, 97, 116, 101]⟩ : ByteArray).toList))))
 else (bif (a0.Kind == 3) then ((ast_great F a0.Name).bind fun x9 =>
 some ((ast_shape.mk true false false 0 6 false), x9))
 else (bif (a0.Kind == 4) then (some ((ast_shape.mk false false false 2 6 false), true))
 else (bif (a0.Kind == 5) then ((ast_called F a0.Name).bind fun x12 =>
 some ((ast_shape.mk true false false 1 6 false), x12))
 else (bif (a0.Kind == 6) then ((ast_small F a0.Name).bind fun x14 =>
 some ((ast_shape.mk true false false 2 2 false), x14))
 else (bif (a0.Kind == 7) then (some ((ast_shape.mk false false false 3 3 false), true))
 else (bif (a0.Kind == 8) then (some ((ast_shape.mk false false false 1 1 true), true))
 else (bif (a0.Kind == 9) then ((ast_args F a0.Num).bind fun x18 =>
 some ((ast_shape.mk false true false x18 x18 false), ((decide (0 ≤ a0.Num)) && (decide (a0.Num < 12)))))
 else (bif (a0.Kind == 10) then ((ast_small F a0.Name).bind fun x20 =>
 some ((ast_shape.mk true true false 2 2 false), ((x20 && (decide (0 ≤ a0.Num))) && (decide (a0.Num ≤ 1000)))))
 else (some ((ast_shape.mk false false false 0 0 false), false))))))))))))
def slices_IndexFunc_api_Arm_api_Arm_L0 (F : Nat) (a0 : (List api_Arm)) (φ1 : api_Arm → Option Bool) : Nat → Int → Option Int
 | 0, _ => none
 | m + 1, v1 =>
 bif (decide (v1 < (a0.length : Int))) then ((idx a0 v1).bind fun x4 =>
 (φ1 x4).bind fun x5 =>
 bif x5 then (some v1)
 else (slices_IndexFunc_api_Arm_api_Arm_L0 F a0 φ1 m (IntKind.i64.wrap (v1 + 1))))
 else (some (-1))
def slices_IndexFunc_api_Arm_api_Arm (F : Nat) (a0 : (List api_Arm)) (φ1 : api_Arm → Option Bool) : Option Int :=
 slices_IndexFunc_api_Arm_api_Arm_L0 F a0 φ1 F 0
def slices_ContainsFunc_api_Arm_api_Arm (F : Nat) (a0 : (List api_Arm)) (φ1 : api_Arm → Option Bool) : Option Bool :=
 (slices_IndexFunc_api_Arm_api_Arm F a0 φ1).bind fun x1 =>
 some (decide (0 ≤ x1))
def ast_every_api_Arm_1 (F : Nat) (a0 : api_Arm) (φ1 : api_Arm → Option Bool) : Option Bool :=
 (φ1 a0).bind fun x2 =>
 some (!x2)
def ast_every_api_Arm (F : Nat) (a0 : (List api_Arm)) (a1 : Int) (a2 : Int) (φ3 : api_Arm → Option Bool) : Option Bool :=
 joinM (fun (v2 : Bool) =>
 some v2) fun K1 =>
 bif ((decide (a1 ≤ (a0.length : Int))) && (decide ((a0.length : Int) ≤ a2))) then ((slices_ContainsFunc_api_Arm_api_Arm F a0 (fun y0 => ast_every_api_Arm_1 F y0 φ3)).bind fun x3 =>
 K1 (!x3))
 else (K1 false)
def slices_IndexFunc_api_Expr_api_Expr_L0 (F : Nat) (a0 : (List api_Expr)) (φ1 : api_Expr → Option Bool) : Nat → Int → Option Int
 | 0, _ => none
 | m + 1, v1 =>
 bif (decide (v1 < (a0.length : Int))) then ((idx a0 v1).bind fun x4 =>
 (φ1 x4).bind fun x5 =>
 bif x5 then (some v1)
 else (slices_IndexFunc_api_Expr_api_Expr_L0 F a0 φ1 m (IntKind.i64.wrap (v1 + 1))))
 else (some (-1))
def slices_IndexFunc_api_Expr_api_Expr (F : Nat) (a0 : (List api_Expr)) (φ1 : api_Expr → Option Bool) : Option Int :=
 slices_IndexFunc_api_Expr_api_Expr_L0 F a0 φ1 F 0
def slices_ContainsFunc_api_Expr_api_Expr (F : Nat) (a0 : (List api_Expr)) (φ1 : api_Expr → Option Bool) : Option Bool :=
 (slices_IndexFunc_api_Expr_api_Expr F a0 φ1).bind fun x1 =>
 some (decide (0 ≤ x1))
def ast_every_api_Expr_1 (F : Nat) (a0 : api_Expr) (φ1 : api_Expr → Option Bool) : Option Bool :=
 (φ1 a0).bind fun x2 =>
 some (!x2)
def ast_every_api_Expr (F : Nat) (a0 : (List api_Expr)) (a1 : Int) (a2 : Int) (φ3 : api_Expr → Option Bool) : Option Bool :=
 joinM (fun (v2 : Bool) =>
 some v2) fun K1 =>
 bif ((decide (a1 ≤ (a0.length : Int))) && (decide ((a0.length : Int) ≤ a2))) then ((slices_ContainsFunc_api_Expr_api_Expr F a0 (fun y0 => ast_every_api_Expr_1 F y0 φ3)).bind fun x3 =>
 K1 (!x3))
 else (K1 false)
def slices_IndexFunc_api_Pat_api_Pat_L0 (F : Nat) (a0 : (List api_Pat)) (φ1 : api_Pat → Option Bool) : Nat → Int → Option Int
 | 0, _ => none
 | m + 1, v1 =>
 bif (decide (v1 < (a0.length : Int))) then ((idx a0 v1).bind fun x4 =>
 (φ1 x4).bind fun x5 =>
 bif x5 then (some v1)
 else (slices_IndexFunc_api_Pat_api_Pat_L0 F a0 φ1 m (IntKind.i64.wrap (v1 + 1))))
 else (some (-1))
def slices_IndexFunc_api_Pat_api_Pat (F : Nat) (a0 : (List api_Pat)) (φ1 : api_Pat → Option Bool) : Option Int :=
 slices_IndexFunc_api_Pat_api_Pat_L0 F a0 φ1 F 0
def slices_ContainsFunc_api_Pat_api_Pat (F : Nat) (a0 : (List api_Pat)) (φ1 : api_Pat → Option Bool) : Option Bool :=
 (slices_IndexFunc_api_Pat_api_Pat F a0 φ1).bind fun x1 =>
 some (decide (0 ≤ x1))
def ast_every_api_Pat_1 (F : Nat) (a0 : api_Pat) (φ1 : api_Pat → Option Bool) : Option Bool :=
 (φ1 a0).bind fun x2 =>
 some (!x2)
def ast_every_api_Pat (F : Nat) (a0 : (List api_Pat)) (a1 : Int) (a2 : Int) (φ3 : api_Pat → Option Bool) : Option Bool :=
 joinM (fun (v2 : Bool) =>
 some v2) fun K1 =>
 bif ((decide (a1 ≤ (a0.length : Int))) && (decide ((a0.length : Int) ≤ a2))) then ((slices_ContainsFunc_api_Pat_api_Pat F a0 (fun y0 => ast_every_api_Pat_1 F y0 φ3)).bind fun x3 =>
 K1 (!x3))
 else (K1 false)
def ast_depth_fitPat_B (F : Nat) (ρ49 : Int → api_Pat → Option Bool) (a0 : Int) (a1 : api_Pat) : Option Bool :=
 bif ((decide (a0 < 1)) || ((a1.Num != 0) && (a1.Kind != 2))) then (some false)
 else (joinM (fun (v3 : Int) (v4 : Int) (v5 : Bool) =>
 joinM (fun (v15 : Bool) =>
 some v15) fun K5 =>
 bif v5 then ((ast_every_api_Pat F a1.Kids v3 v4 (fun y0 => ρ49 (IntKind.i64.wrap (a0 - 1)) y0)).bind fun x16 =>
 K5 x16)
 else (K5 false)) fun K3 =>
 bif (a1.Kind == 0) then (K3 0 0 (a1.Name.toList == (⟨#[]⟩ : ByteArray).toList))
 else (bif (a1.Kind == 1) then ((ast_small F a1.Name).bind fun x8 =>
 K3 0 0 x8)
 else (bif (a1.Kind == 2) then (joinM (fun (v10 : Bool) =>
 K3 0 0 v10) fun K4 =>
 bif (a1.Name.toList == (⟨#[]⟩ : ByteArray).toList) then ((ast_number F a1.Num).bind fun x11 =>
 K4 x11)
 else (K4 false))
 else (bif (a1.Kind == 3) then ((ast_great F a1.Name).bind fun x13 =>
 K3 0 6 x13)
 else (bif (a1.Kind == 4) then (K3 2 6 (a1.Name.toList == (⟨#[]⟩ : ByteArray).toList))
 else (some false))))))
def ast_depth_fitPat : Nat → Int → api_Pat → Option Bool
 | 0, _, _ => none
 | F + 1, a0, a1 => ast_depth_fitPat_B F (ast_depth_fitPat F) a0 a1
def ast_depth_fitExpr_B (F : Nat) (ρ47 : Int → api_Expr → Option Bool) (ρ122 : Int → api_Arm → Option Bool) (a0 : Int) (a1 : api_Expr) : Option Bool :=
 (ast_of F a1).bind fun x2 =>
 bif (((((decide (a0 < 1)) || (!x2.2)) || ((!x2.1.named) && (!(a1.Name.toList == (⟨#[]⟩ : ByteArray).toList)))) || ((!x2.1.numbered) && (a1.Num != 0))) || ((!x2.1.bytes) && (decide (0 < (a1.Bytes.length : Int))))) then (some false)
 else (joinM (fun (v5 : Bool) =>
 bif v5 then (some false)
 else ((ast_every_api_Expr F a1.Kids x2.1.least x2.1.top (fun y0 => ρ47 (IntKind.i64.wrap (a0 - 1)) y0)).bind fun x9 =>
 some x9)) fun K7 =>
 bif ((!x2.1.arms) && (decide (0 < (a1.Arms.length : Int)))) then (K7 true)
 else (joinM (fun (v6 : Bool) =>
 K7 v6) fun K8 =>
 bif x2.1.arms then ((ast_every_api_Arm F a1.Arms 1 32 (fun y0 => ρ122 (IntKind.i64.wrap (a0 - 1)) y0)).bind fun x7 =>
 K8 (!x7))
 else (K8 false)))
def ast_depth_fitArm_B (F : Nat) (ρ47 : Int → api_Expr → Option Bool) (ρ122 : Int → api_Arm → Option Bool) (a0 : Int) (a1 : api_Arm) : Option Bool :=
 (ast_depth_fitPat F a0 a1.Pat).bind fun x2 =>
 joinM (fun (v3 : Bool) =>
 some v3) fun K1 =>
 bif x2 then ((ρ47 a0 a1.Body).bind fun x4 =>
 K1 x4)
 else (K1 false)
mutual
def ast_depth_fitExpr : Nat → Int → api_Expr → Option Bool
 | 0, _, _ => none
 | F + 1, a0, a1 => ast_depth_fitExpr_B F (ast_depth_fitExpr F) (ast_depth_fitArm F) a0 a1
def ast_depth_fitArm : Nat → Int → api_Arm → Option Bool
 | 0, _, _ => none
 | F + 1, a0, a1 => ast_depth_fitArm_B F (ast_depth_fitExpr F) (ast_depth_fitArm F) a0 a1
end
def ast_FitExpr (F : Nat) (a0 : api_Expr) : Option Bool :=
 (ast_depth_fitExpr F 64 a0).bind fun x2 =>
 some x2
def slices_IndexFunc_api_Data_api_Data_L0 (F : Nat) (a0 : (List api_Data)) (φ1 : api_Data → Option Bool) : Nat → Int → Option Int
 | 0, _ => none
 | m + 1, v1 =>
 bif (decide (v1 < (a0.length : Int))) then ((idx a0 v1).bind fun x4 =>
 (φ1 x4).bind fun x5 =>
 bif x5 then (some v1)
 else (slices_IndexFunc_api_Data_api_Data_L0 F a0 φ1 m (IntKind.i64.wrap (v1 + 1))))
 else (some (-1))
def slices_IndexFunc_api_Data_api_Data (F : Nat) (a0 : (List api_Data)) (φ1 : api_Data → Option Bool) : Option Int :=
 slices_IndexFunc_api_Data_api_Data_L0 F a0 φ1 F 0
def slices_ContainsFunc_api_Data_api_Data (F : Nat) (a0 : (List api_Data)) (φ1 : api_Data → Option Bool) : Option Bool :=
 (slices_IndexFunc_api_Data_api_Data F a0 φ1).bind fun x1 =>
 some (decide (0 ≤ x1))
def ast_every_api_Data_1 (F : Nat) (a0 : api_Data) (φ1 : api_Data → Option Bool) : Option Bool :=
 (φ1 a0).bind fun x2 =>
 some (!x2)
def ast_every_api_Data (F : Nat) (a0 : (List api_Data)) (a1 : Int) (a2 : Int) (φ3 : api_Data → Option Bool) : Option Bool :=
 joinM (fun (v2 : Bool) =>
 some v2) fun K1 =>
 bif ((decide (a1 ≤ (a0.length : Int))) && (decide ((a0.length : Int) ≤ a2))) then ((slices_ContainsFunc_api_Data_api_Data F a0 (fun y0 => ast_every_api_Data_1 F y0 φ3)).bind fun x3 =>
 K1 (!x3))
 else (K1 false)
def slices_IndexFunc_api_Con_api_Con_L0 (F : Nat) (a0 : (List api_Con)) (φ1 : api_Con → Option Bool) : Nat → Int → Option Int
 | 0, _ => none
 | m + 1, v1 =>
 bif (decide (v1 < (a0.length : Int))) then ((idx a0 v1).bind fun x4 =>
 (φ1 x4).bind fun x5 =>
 bif x5 then (some v1)
 else (slices_IndexFunc_api_Con_api_Con_L0 F a0 φ1 m (IntKind.i64.wrap (v1 + 1))))
 else (some (-1))
def slices_IndexFunc_api_Con_api_Con (F : Nat) (a0 : (List api_Con)) (φ1 : api_Con → Option Bool) : Option Int :=
 slices_IndexFunc_api_Con_api_Con_L0 F a0 φ1 F 0
def slices_ContainsFunc_api_Con_api_Con (F : Nat) (a0 : (List api_Con)) (φ1 : api_Con → Option Bool) : Option Bool :=
 (slices_IndexFunc_api_Con_api_Con F a0 φ1).bind fun x1 =>
 some (decide (0 ≤ x1))
def ast_every_api_Con_1 (F : Nat) (a0 : api_Con) (φ1 : api_Con → Option Bool) : Option Bool :=
 (φ1 a0).bind fun x2 =>
 some (!x2)
def ast_every_api_Con (F : Nat) (a0 : (List api_Con)) (a1 : Int) (a2 : Int) (φ3 : api_Con → Option Bool) : Option Bool :=
 joinM (fun (v2 : Bool) =>
 some v2) fun K1 =>
 bif ((decide (a1 ≤ (a0.length : Int))) && (decide ((a0.length : Int) ≤ a2))) then ((slices_ContainsFunc_api_Con_api_Con F a0 (fun y0 => ast_every_api_Con_1 F y0 φ3)).bind fun x3 =>
 K1 (!x3))
 else (K1 false)
def ast_fitCon (F : Nat) (a0 : api_Con) : Option Bool :=
 (ast_great F a0.Name).bind fun x2 =>
 joinM (fun (v3 : Bool) =>
 some v3) fun K1 =>
 bif x2 then ((ast_every_api_Type F a0.Fields 0 6 (fun y0 => ast_FitType F y0)).bind fun x4 =>
 K1 x4)
 else (K1 false)
def ast_fitData (F : Nat) (a0 : api_Data) : Option Bool :=
 (ast_declared F a0.Name).bind fun x2 =>
 joinM (fun (v3 : Bool) =>
 some v3) fun K1 =>
 bif x2 then ((ast_every_api_Con F a0.Cons 1 16 (fun y0 => ast_fitCon F y0)).bind fun x4 =>
 K1 x4)
 else (K1 false)
def slices_IndexFunc_api_Fun_api_Fun_L0 (F : Nat) (a0 : (List api_Fun)) (φ1 : api_Fun → Option Bool) : Nat → Int → Option Int
 | 0, _ => none
 | m + 1, v1 =>
 bif (decide (v1 < (a0.length : Int))) then ((idx a0 v1).bind fun x4 =>
 (φ1 x4).bind fun x5 =>
 bif x5 then (some v1)
 else (slices_IndexFunc_api_Fun_api_Fun_L0 F a0 φ1 m (IntKind.i64.wrap (v1 + 1))))
 else (some (-1))
def slices_IndexFunc_api_Fun_api_Fun (F : Nat) (a0 : (List api_Fun)) (φ1 : api_Fun → Option Bool) : Option Int :=
 slices_IndexFunc_api_Fun_api_Fun_L0 F a0 φ1 F 0
def slices_ContainsFunc_api_Fun_api_Fun (F : Nat) (a0 : (List api_Fun)) (φ1 : api_Fun → Option Bool) : Option Bool :=
 (slices_IndexFunc_api_Fun_api_Fun F a0 φ1).bind fun x1 =>
 some (decide (0 ≤ x1))
def ast_every_api_Fun_1 (F : Nat) (a0 : api_Fun) (φ1 : api_Fun → Option Bool) : Option Bool :=
 (φ1 a0).bind fun x2 =>
 some (!x2)
def ast_every_api_Fun (F : Nat) (a0 : (List api_Fun)) (a1 : Int) (a2 : Int) (φ3 : api_Fun → Option Bool) : Option Bool :=
 joinM (fun (v2 : Bool) =>
 some v2) fun K1 =>
 bif ((decide (a1 ≤ (a0.length : Int))) && (decide ((a0.length : Int) ≤ a2))) then ((slices_ContainsFunc_api_Fun_api_Fun F a0 (fun y0 => ast_every_api_Fun_1 F y0 φ3)).bind fun x3 =>
 K1 (!x3))
 else (K1 false)
def slices_IndexFunc_api_Param_api_Param_L0 (F : Nat) (a0 : (List api_Param)) (φ1 : api_Param → Option Bool) : Nat → Int → Option Int
 | 0, _ => none
 | m + 1, v1 =>
 bif (decide (v1 < (a0.length : Int))) then ((idx a0 v1).bind fun x4 =>
 (φ1 x4).bind fun x5 =>
 bif x5 then (some v1)
 else (slices_IndexFunc_api_Param_api_Param_L0 F a0 φ1 m (IntKind.i64.wrap (v1 + 1))))
 else (some (-1))
def slices_IndexFunc_api_Param_api_Param (F : Nat) (a0 : (List api_Param)) (φ1 : api_Param → Option Bool) : Option Int :=
 slices_IndexFunc_api_Param_api_Param_L0 F a0 φ1 F 0
def slices_ContainsFunc_api_Param_api_Param (F : Nat) (a0 : (List api_Param)) (φ1 : api_Param → Option Bool) : Option Bool :=
 (slices_IndexFunc_api_Param_api_Param F a0 φ1).bind fun x1 =>
 some (decide (0 ≤ x1))
def ast_every_api_Param_1 (F : Nat) (a0 : api_Param) (φ1 : api_Param → Option Bool) : Option Bool :=
 (φ1 a0).bind fun x2 =>
 some (!x2)
def ast_every_api_Param (F : Nat) (a0 : (List api_Param)) (a1 : Int) (a2 : Int) (φ3 : api_Param → Option Bool) : Option Bool :=
 joinM (fun (v2 : Bool) =>
 some v2) fun K1 =>
 bif ((decide (a1 ≤ (a0.length : Int))) && (decide ((a0.length : Int) ≤ a2))) then ((slices_ContainsFunc_api_Param_api_Param F a0 (fun y0 => ast_every_api_Param_1 F y0 φ3)).bind fun x3 =>
 K1 (!x3))
 else (K1 false)
def ast_fitParam (F : Nat) (a0 : api_Param) : Option Bool :=
 (ast_small F a0.Name).bind fun x2 =>
 joinM (fun (v3 : Bool) =>
 some v3) fun K1 =>
 bif x2 then ((ast_FitType F a0.Type_).bind fun x4 =>
 K1 x4)
 else (K1 false)
def ast_fitFun (F : Nat) (a0 : api_Fun) : Option Bool :=
 (ast_called F a0.Name).bind fun x2 =>
 joinM (fun (v3 : Bool) =>
 joinM (fun (v5 : Bool) =>
 joinM (fun (v7 : Bool) =>
 some v7) fun K3 =>
 bif v5 then ((ast_FitExpr F a0.Body).bind fun x8 =>
 K3 x8)
 else (K3 false)) fun K2 =>
 bif v3 then ((ast_FitType F a0.Result).bind fun x6 =>
 K2 x6)
 else (K2 false)) fun K1 =>
 bif x2 then ((ast_every_api_Param F a0.Params 1 6 (fun y0 => ast_fitParam F y0)).bind fun x4 =>
 K1 x4)
 else (K1 false)
def slices_IndexFunc_api_Hand_api_Hand_L0 (F : Nat) (a0 : (List api_Hand)) (φ1 : api_Hand → Option Bool) : Nat → Int → Option Int
 | 0, _ => none
 | m + 1, v1 =>
 bif (decide (v1 < (a0.length : Int))) then ((idx a0 v1).bind fun x4 =>
 (φ1 x4).bind fun x5 =>
 bif x5 then (some v1)
 else (slices_IndexFunc_api_Hand_api_Hand_L0 F a0 φ1 m (IntKind.i64.wrap (v1 + 1))))
 else (some (-1))
def slices_IndexFunc_api_Hand_api_Hand (F : Nat) (a0 : (List api_Hand)) (φ1 : api_Hand → Option Bool) : Option Int :=
 slices_IndexFunc_api_Hand_api_Hand_L0 F a0 φ1 F 0
def slices_ContainsFunc_api_Hand_api_Hand (F : Nat) (a0 : (List api_Hand)) (φ1 : api_Hand → Option Bool) : Option Bool :=
 (slices_IndexFunc_api_Hand_api_Hand F a0 φ1).bind fun x1 =>
 some (decide (0 ≤ x1))
def ast_every_api_Hand_1 (F : Nat) (a0 : api_Hand) (φ1 : api_Hand → Option Bool) : Option Bool :=
 (φ1 a0).bind fun x2 =>
 some (!x2)
def ast_every_api_Hand (F : Nat) (a0 : (List api_Hand)) (a1 : Int) (a2 : Int) (φ3 : api_Hand → Option Bool) : Option Bool :=
 joinM (fun (v2 : Bool) =>
 some v2) fun K1 =>
 bif ((decide (a1 ≤ (a0.length : Int))) && (decide ((a0.length : Int) ≤ a2))) then ((slices_ContainsFunc_api_Hand_api_Hand F a0 (fun y0 => ast_every_api_Hand_1 F y0 φ3)).bind fun x3 =>
 K1 (!x3))
 else (K1 false)
def ast_fitHand (F : Nat) (a0 : api_Hand) : Option Bool :=
 (ast_small F a0.Name).bind fun x2 =>
 joinM (fun (v3 : Bool) =>
 joinM (fun (v5 : Bool) =>
 some v5) fun K2 =>
 bif ((v3 && (decide (0 ≤ a0.Cap))) && (decide (a0.Cap ≤ 64))) then ((ast_FitExpr F a0.Body).bind fun x6 =>
 K2 x6)
 else (K2 false)) fun K1 =>
 bif x2 then ((ast_fitParam F a0.Param).bind fun x4 =>
 K1 x4)
 else (K1 false)
def ast_Fit (F : Nat) (a0 : api_Prog) : Option Bool :=
 joinM (fun (v2 : Bool) =>
 joinM (fun (v4 : Bool) =>
 bif v4 then (some false)
 else ((ast_every_api_Data F a0.Datas 0 32 (fun y0 => ast_fitData F y0)).bind fun x7 =>
 joinM (fun (v8 : Bool) =>
 joinM (fun (v10 : Bool) =>
 some v10) fun K4 =>
 bif v8 then ((ast_every_api_Hand F a0.Hands 0 16 (fun y0 => ast_fitHand F y0)).bind fun x11 =>
 K4 x11)
 else (K4 false)) fun K3 =>
 bif x7 then ((ast_every_api_Fun F a0.Funs 0 48 (fun y0 => ast_fitFun F y0)).bind fun x9 =>
 K3 x9)
 else (K3 false))) fun K2 =>
 bif v2 then (K2 true)
 else ((ast_FitExpr F a0.Init).bind fun x5 =>
 K2 (!x5))) fun K1 =>
 bif ((((((decide (a0.Queue < 1)) || (decide (32 < a0.Queue))) || (decide (a0.Timers < 0))) || (decide (32 < a0.Timers))) || (decide (a0.Cap < 0))) || (decide (256 < a0.Cap))) then (K1 true)
 else ((ast_FitType F a0.State).bind fun x3 =>
 K1 (!x3))
def R02_tail_L0 (F : Nat) (a0 : ByteArray) (a1 : Int) (a2 : Int) : Nat → Int → Int → Option (Int × Bool)
 | 0, _, _ => none
 | m + 1, v1, v2 =>
 bif (decide (v2 < (IntKind.i64.wrap (a1 + a2)))) then (joinM (fun (v6 : Bool) =>
 joinM (fun (v8 : Bool) =>
 bif v8 then (some (0, false))
 else ((sidx a0 v2).bind fun x11 =>
 R02_tail_L0 F a0 a1 a2 m (IntKind.i32.wrap ((IntKind.i32.wrap (v1 * 64)) + (IntKind.i32.wrap (IntKind.u8.wrap (x11 - 128))))) (IntKind.i64.wrap (v2 + 1)))) fun K3 =>
 bif v6 then (K3 true)
 else ((sidx a0 v2).bind fun x9 =>
 K3 (decide (191 < x9)))) fun K2 =>
 bif (decide ((a0.size : Int) ≤ v2)) then (K2 true)
 else ((sidx a0 v2).bind fun x7 =>
 K2 (decide (x7 < 128))))
 else (some (v1, true))
def R02_tail (F : Nat) (a0 : ByteArray) (a1 : Int) (a2 : Int) : Option (Int × Bool) :=
 R02_tail_L0 F a0 a1 a2 F 0 a1
def R02_scalar (F : Nat) (a0 : Int) : Option Bool :=
 some (((decide (0 ≤ a0)) && (decide (a0 ≤ 1114111))) && ((decide (a0 < 55296)) || (decide (57343 < a0))))
def R02_One (F : Nat) (a0 : ByteArray) (a1 : Int) : Option (Int × Int) :=
 (sidx a0 a1).bind fun x1 =>
 bif (decide (x1 < 128)) then (some ((IntKind.i32.wrap x1), 1))
 else (joinM (fun (v3 : Int) (v4 : Int) (v5 : Int) =>
 (R02_tail F a0 (IntKind.i64.wrap (a1 + 1)) v3).bind fun x9 =>
 (shlM .i32 v4 (IntKind.u64.wrap (IntKind.i64.wrap (6 * v3)))).bind fun x10 =>
 joinM (fun (v11 : Bool) =>
 bif v11 then (some (0, 0))
 else (some ((IntKind.i32.wrap (x10 + x9.1)), (IntKind.i64.wrap (v3 + 1))))) fun K2 =>
 bif ((!x9.2) || (decide ((IntKind.i32.wrap (x10 + x9.1)) < v5))) then (K2 true)
 else ((R02_scalar F (IntKind.i32.wrap (x10 + x9.1))).bind fun x12 =>
 K2 (!x12))) fun K1 =>
 bif ((decide (192 ≤ x1)) && (decide (x1 < 224))) then (K1 1 (IntKind.i32.wrap ((IntKind.i32.wrap x1) - 192)) 128)
 else (bif ((decide (224 ≤ x1)) && (decide (x1 < 240))) then (K1 2 (IntKind.i32.wrap ((IntKind.i32.wrap x1) - 224)) 2048)
 else (bif ((decide (240 ≤ x1)) && (decide (x1 < 248))) then (K1 3 (IntKind.i32.wrap ((IntKind.i32.wrap x1) - 240)) 65536)
 else (some (0, 0)))))
def R02_Low (F : Nat) (a0 : Int) : Option Bool :=
 joinM (fun (v1 : Bool) =>
 some v1) fun K1 =>
 bif ((decide (97 ≤ a0)) && (decide (a0 ≤ 122))) then (K1 true)
 else (joinM (fun (v2 : Bool) =>
 K1 v2) fun K2 =>
 bif (decide (128 ≤ a0)) then ((R02_scalar F a0).bind fun x3 =>
 K2 x3)
 else (K2 false))
def R02_Up (F : Nat) (a0 : Int) : Option Bool :=
 some ((decide (65 ≤ a0)) && (decide (a0 ≤ 90)))
def R02_Digit (F : Nat) (a0 : Int) : Option Bool :=
 some ((decide (48 ≤ a0)) && (decide (a0 ≤ 57)))
def R03_part (F : Nat) (a0 : Int) : Option Bool :=
 (R02_Low F a0).bind fun x1 =>
 joinM (fun (v2 : Bool) =>
 joinM (fun (v4 : Bool) =>
 some (v4 || (a0 == 95))) fun K2 =>
 bif v2 then (K2 true)
 else ((R02_Digit F a0).bind fun x5 =>
 K2 x5)) fun K1 =>
 bif x1 then (K1 true)
 else ((R02_Up F a0).bind fun x3 =>
 K1 x3)
def R03_Word (F : Nat) (a0 : ByteArray) : Option Bool :=
 bif (a0.toList == (⟨#[99, 97, 112]⟩ : ByteArray).toList) then (some true)
 else (bif (a0.toList == (⟨#[100, 111]⟩ : ByteArray).toList) then (some true)
 else (bif (a0.toList == (⟨#[101, 108, 115, 101]⟩ : ByteArray).toList) then (some true)
 else (bif (a0.toList == (⟨#[101, 110, 100]⟩ : ByteArray).toList) then (some true)
 else (bif (a0.toList == (⟨#[102, 111, 114]⟩ : ByteArray).toList) then (some true)
 else (bif (a0.toList == (⟨#[102, 117, 110]⟩ : ByteArray).toList) then (some true)
 else (bif (a0.toList == (⟨#[105, 102]⟩ : ByteArray).toList) then (some true)
 else (bif (a0.toList == (⟨#[105, 110]⟩ : ByteArray).toList) then (some true)
 else (bif (a0.toList == (⟨#[108, 101, 116]⟩ : ByteArray).toList) then (some true)
 else (bif (a0.toList == (⟨#[109, 97, 116, 99, 104]⟩ : ByteArray).toList) then (some true)
 else (bif (a0.toList == (⟨#[111, 102]⟩ : ByteArray).toList) then (some true)
 else (bif (a0.toList == (⟨#[111, 110]⟩ : ByteArray).toList) then (some true)
 else (bif (a0.toList == (⟨#[113, 117, 101, 117, 101]⟩ : ByteArray).toList) then (some true)
 else (bif (a0.toList == (⟨#[115, 116, 97, 116, 101]⟩ : ByteArray).toList) then (some true)
 else (bif (a0.toList == (⟨#[116, 104, 101, 110]⟩ : ByteArray).toList) then (some true)
 else (bif (a0.toList == (⟨#[116, 105, 109, 101, 114, 115]⟩ : ByteArray).toList) then (some true)
 else (bif (a0.toList == (⟨#[116, 121, 112, 101]⟩ : ByteArray).toList) then (some true)
 else (bif (a0.toList == (⟨#[119, 105, 116, 104]⟩ : ByteArray).toList) then (some true)
 else (some false))))))))))))))))))
def R03_Named_L0 (F : Nat) (a0 : ByteArray) (a1 : Bool) (K1 : Int → Option Bool) : Nat → Int → Int → Option Bool
 | 0, _, _ => none
 | m + 1, v2, v3 =>
 bif (decide (v3 < (a0.size : Int))) then ((R02_One F a0 v3).bind fun x7 =>
 joinM (fun (v8 : Bool) =>
 joinM (fun (v10 : Bool) =>
 bif (v10 || (decide (24 ≤ v2))) then (some false)
 else (R03_Named_L0 F a0 a1 K1 m (IntKind.i64.wrap (v2 + 1)) (IntKind.i64.wrap (v3 + x7.2)))) fun K4 =>
 bif v8 then (K4 true)
 else (joinM (fun (v11 : Bool) =>
 K4 v11) fun K5 =>
 bif (v2 == 0) then (joinM (fun (v12 : Bool) =>
 joinM (fun (v14 : Bool) =>
 K5 v14) fun K7 =>
 bif v12 then (K7 true)
 else (joinM (fun (v15 : Bool) =>
 K7 v15) fun K8 =>
 bif (!a1) then ((R02_Low F x7.1).bind fun x16 =>
 K8 (!x16))
 else (K8 false))) fun K6 =>
 bif a1 then ((R02_Up F x7.1).bind fun x13 =>
 K6 (!x13))
 else (K6 false))
 else (K5 false))) fun K3 =>
 bif (x7.2 == 0) then (K3 true)
 else ((R03_part F x7.1).bind fun x9 =>
 K3 (!x9)))
 else (K1 v2)
def R03_Named (F : Nat) (a0 : ByteArray) (a1 : Bool) : Option Bool :=
 joinM (fun (v1 : Int) =>
 joinM (fun (v18 : Bool) =>
 some v18) fun K9 =>
 bif (decide (0 < v1)) then ((R03_Word F a0).bind fun x19 =>
 K9 (!x19))
 else (K9 false)) fun K1 =>
 R03_Named_L0 F a0 a1 K1 F 0 0
def R04_Small (F : Nat) (a0 : ByteArray) : Option Bool :=
 (R03_Named F a0 false).bind fun x1 =>
 some ((x1 && (!(a0.toList == (⟨#[105, 110, 116]⟩ : ByteArray).toList))) && (!(a0.toList == (⟨#[98, 121, 116, 101, 115]⟩ : ByteArray).toList)))
def R04_fitType_L0 (F : Nat) (ρ52 : api_Type → Int → Option Bool) (a0 : api_Type) (a1 : Int) : Nat → Int → Option Bool
 | 0, _ => none
 | m + 1, v10 =>
 bif (decide (v10 < (a0.Parts.length : Int))) then ((idx a0.Parts v10).bind fun x13 =>
 (ρ52 x13 (IntKind.i64.wrap (a1 - 1))).bind fun x14 =>
 bif (!x14) then (some false)
 else (R04_fitType_L0 F ρ52 a0 a1 m (IntKind.i64.wrap (v10 + 1))))
 else (some true)
def R04_fitType_B (F : Nat) (ρ52 : api_Type → Int → Option Bool) (a0 : api_Type) (a1 : Int) : Option Bool :=
 bif (decide (a1 < 1)) then (some false)
 else (joinM (fun (v3 : Bool) =>
 bif v3 then (some ((a0.Name.toList == (⟨#[]⟩ : ByteArray).toList) && ((a0.Parts.length : Int) == 0)))
 else (bif (a0.Kind == 2) then ((R04_Small F a0.Name).bind fun x7 =>
 some (x7 && ((a0.Parts.length : Int) == 0)))
 else (bif (a0.Kind == 3) then (bif (((!(a0.Name.toList == (⟨#[]⟩ : ByteArray).toList)) || (decide ((a0.Parts.length : Int) < 2))) || (decide (6 < (a0.Parts.length : Int)))) then (some false)
 else (R04_fitType_L0 F ρ52 a0 a1 F 0))
 else (some false)))) fun K1 =>
 bif (a0.Kind == 0) then (K1 (a0.Kind == 0))
 else (K1 (a0.Kind == 1)))
def R04_fitType : Nat → api_Type → Int → Option Bool
 | 0, _, _ => none
 | F + 1, a0, a1 => R04_fitType_B F (R04_fitType F) a0 a1
def R04_FitType (F : Nat) (a0 : api_Type) : Option Bool :=
 (R04_fitType F a0 64).bind fun x2 =>
 some x2
def R04_number (F : Nat) (a0 : Int) : Option Bool :=
 some ((decide ((-4611686018427387903) ≤ a0)) && (decide (a0 ≤ 4611686018427387903)))
def R04_Called (F : Nat) (a0 : ByteArray) : Option Bool :=
 (R04_Small F a0).bind fun x1 =>
 some ((((x1 && (!(a0.toList == (⟨#[108, 101, 110]⟩ : ByteArray).toList))) && (!(a0.toList == (⟨#[97, 116]⟩ : ByteArray).toList))) && (!(a0.toList == (⟨#[99, 97, 116]⟩ : ByteArray).toList))) && (!(a0.toList == (⟨#[99, 117, 116]⟩ : ByteArray).toList)))
def R04_Args (F : Nat) (a0 : Int) : Option Int :=
 bif (a0 == 8) then (some 1)
 else (bif (a0 == 11) then (some 3)
 else (some 2))
def R04_alone (F : Nat) (a0 : api_Expr) : Option Bool :=
 bif (((a0.Kind != 8) && (decide (0 < (a0.Arms.length : Int)))) || ((a0.Kind != 1) && (decide (0 < (a0.Bytes.length : Int))))) then (some false)
 else (bif (a0.Kind == 0) then (joinM (fun (v4 : Bool) =>
 some v4) fun K3 =>
 bif ((a0.Name.toList == (⟨#[]⟩ : ByteArray).toList) && ((a0.Kids.length : Int) == 0)) then ((R04_number F a0.Num).bind fun x5 =>
 K3 x5)
 else (K3 false))
 else (bif (a0.Kind == 1) then (some ((((a0.Name.toList == (⟨#[]⟩ : ByteArray).toList) && ((a0.Kids.length : Int) == 0)) && (a0.Num == 0)) && (decide ((a0.Bytes.length : Int) ≤ 64))))
 else (bif (a0.Kind == 2) then (joinM (fun (v8 : Bool) =>
 some v8) fun K4 =>
 bif (((a0.Num == 0) && ((a0.Bytes.length : Int) == 0)) && ((a0.Kids.length : Int) == 0)) then ((R03_Named F a0.Name false).bind fun x9 =>
 K4 (x9 || (a0.Name.toList == (⟨#[115, 116, 97, 116, 101]⟩ : ByteArray).toList)))
 else (K4 false))
 else (bif (a0.Kind == 3) then (joinM (fun (v11 : Bool) =>
 some (v11 && (decide ((a0.Kids.length : Int) ≤ 6)))) fun K6 =>
 bif ((a0.Num == 0) && ((a0.Bytes.length : Int) == 0)) then ((R03_Named F a0.Name true).bind fun x12 =>
 K6 x12)
 else (K6 false))
 else (bif (a0.Kind == 4) then (some (((((a0.Num == 0) && ((a0.Bytes.length : Int) == 0)) && (a0.Name.toList == (⟨#[]⟩ : ByteArray).toList)) && (decide (2 ≤ (a0.Kids.length : Int)))) && (decide ((a0.Kids.length : Int) ≤ 6))))
 else (bif (a0.Kind == 5) then (joinM (fun (v15 : Bool) =>
 some ((v15 && (decide (1 ≤ (a0.Kids.length : Int)))) && (decide ((a0.Kids.length : Int) ≤ 6)))) fun K7 =>
 bif ((a0.Num == 0) && ((a0.Bytes.length : Int) == 0)) then ((R04_Called F a0.Name).bind fun x16 =>
 K7 x16)
 else (K7 false))
 else (bif (a0.Kind == 6) then (joinM (fun (v18 : Bool) =>
 some (v18 && ((a0.Kids.length : Int) == 2))) fun K8 =>
 bif ((a0.Num == 0) && ((a0.Bytes.length : Int) == 0)) then ((R03_Named F a0.Name false).bind fun x19 =>
 K8 x19)
 else (K8 false))
 else (bif (a0.Kind == 7) then (some ((((a0.Num == 0) && ((a0.Bytes.length : Int) == 0)) && (a0.Name.toList == (⟨#[]⟩ : ByteArray).toList)) && ((a0.Kids.length : Int) == 3)))
 else (bif (a0.Kind == 8) then (some ((((((a0.Num == 0) && ((a0.Bytes.length : Int) == 0)) && (a0.Name.toList == (⟨#[]⟩ : ByteArray).toList)) && ((a0.Kids.length : Int) == 1)) && (decide (1 ≤ (a0.Arms.length : Int)))) && (decide ((a0.Arms.length : Int) ≤ 32))))
 else (bif (a0.Kind == 9) then (joinM (fun (v23 : Bool) =>
 some v23) fun K9 =>
 bif (((a0.Name.toList == (⟨#[]⟩ : ByteArray).toList) && (decide (0 ≤ a0.Num))) && (decide (a0.Num < 12))) then ((R04_Args F a0.Num).bind fun x24 =>
 K9 ((a0.Kids.length : Int) == x24))
 else (K9 false))
 else (bif (a0.Kind == 10) then (joinM (fun (v26 : Bool) =>
 some (v26 && ((a0.Kids.length : Int) == 2))) fun K10 =>
 bif ((decide (0 ≤ a0.Num)) && (decide (a0.Num ≤ 1000))) then ((R03_Named F a0.Name false).bind fun x27 =>
 K10 x27)
 else (K10 false))
 else (some false))))))))))))
def R04_fitPat_L0 (F : Nat) (ρ50 : api_Pat → Int → Option Bool) (a0 : api_Pat) (a1 : Int) (K3 : Unit → Option Bool) : Nat → Int → Option Bool
 | 0, _ => none
 | m + 1, v3 =>
 bif ((decide (v3 < (a0.Kids.length : Int))) && (decide (v3 < 10))) then ((idx a0.Kids v3).bind fun x6 =>
 (ρ50 x6 (IntKind.i64.wrap (a1 - 1))).bind fun x7 =>
 bif (!x7) then (some false)
 else (R04_fitPat_L0 F ρ50 a0 a1 K3 m (IntKind.i64.wrap (v3 + 1))))
 else (K3 ())
def R04_fitPat_B (F : Nat) (ρ50 : api_Pat → Int → Option Bool) (a0 : api_Pat) (a1 : Int) : Option Bool :=
 bif ((decide (a1 < 1)) || ((a0.Kind != 2) && (a0.Num != 0))) then (some false)
 else (joinM (fun (_ : Unit) =>
 bif (a0.Kind == 0) then (some ((a0.Name.toList == (⟨#[]⟩ : ByteArray).toList) && ((a0.Kids.length : Int) == 0)))
 else (bif (a0.Kind == 1) then ((R03_Named F a0.Name false).bind fun x11 =>
 some (x11 && ((a0.Kids.length : Int) == 0)))
 else (bif (a0.Kind == 2) then (joinM (fun (v13 : Bool) =>
 some v13) fun K5 =>
 bif ((a0.Name.toList == (⟨#[]⟩ : ByteArray).toList) && ((a0.Kids.length : Int) == 0)) then ((R04_number F a0.Num).bind fun x14 =>
 K5 x14)
 else (K5 false))
 else (bif (a0.Kind == 3) then ((R03_Named F a0.Name true).bind fun x16 =>
 some (x16 && (decide ((a0.Kids.length : Int) ≤ 6))))
 else (bif (a0.Kind == 4) then (some (((a0.Name.toList == (⟨#[]⟩ : ByteArray).toList) && (decide (2 ≤ (a0.Kids.length : Int)))) && (decide ((a0.Kids.length : Int) ≤ 6))))
 else (some false)))))) fun K3 =>
 R04_fitPat_L0 F ρ50 a0 a1 K3 F 0)
def R04_fitPat : Nat → api_Pat → Int → Option Bool
 | 0, _, _ => none
 | F + 1, a0, a1 => R04_fitPat_B F (R04_fitPat F) a0 a1
def R04_fitExpr_L1 (F : Nat) (ρ48 : api_Expr → Int → Option Bool) (a0 : api_Expr) (a1 : Int) : Nat → Int → Option Bool
 | 0, _ => none
 | m + 1, v11 =>
 bif (decide (v11 < (a0.Arms.length : Int))) then ((idx a0.Arms v11).bind fun x14 =>
 (R04_fitPat F x14.Pat (IntKind.i64.wrap (a1 - 1))).bind fun x15 =>
 joinM (fun (v16 : Bool) =>
 bif v16 then (some false)
 else (R04_fitExpr_L1 F ρ48 a0 a1 m (IntKind.i64.wrap (v11 + 1)))) fun K5 =>
 bif (!x15) then (K5 true)
 else ((idx a0.Arms v11).bind fun x17 =>
 (ρ48 x17.Body (IntKind.i64.wrap (a1 - 1))).bind fun x18 =>
 K5 (!x18)))
 else (some true)
def R04_fitExpr_L0 (F : Nat) (ρ48 : api_Expr → Int → Option Bool) (a0 : api_Expr) (a1 : Int) (K2 : Unit → Option Bool) : Nat → Int → Option Bool
 | 0, _ => none
 | m + 1, v5 =>
 bif (decide (v5 < (a0.Kids.length : Int))) then ((idx a0.Kids v5).bind fun x8 =>
 (ρ48 x8 (IntKind.i64.wrap (a1 - 1))).bind fun x9 =>
 bif (!x9) then (some false)
 else (R04_fitExpr_L0 F ρ48 a0 a1 K2 m (IntKind.i64.wrap (v5 + 1))))
 else (K2 ())
def R04_fitExpr_B (F : Nat) (ρ48 : api_Expr → Int → Option Bool) (a0 : api_Expr) (a1 : Int) : Option Bool :=
 joinM (fun (v2 : Bool) =>
 bif v2 then (some false)
 else (joinM (fun (_ : Unit) =>
 R04_fitExpr_L1 F ρ48 a0 a1 F 0) fun K2 =>
 R04_fitExpr_L0 F ρ48 a0 a1 K2 F 0)) fun K1 =>
 bif (decide (a1 < 1)) then (K1 true)
 else ((R04_alone F a0).bind fun x3 =>
 K1 (!x3))
def R04_fitExpr : Nat → api_Expr → Int → Option Bool
 | 0, _, _ => none
 | F + 1, a0, a1 => R04_fitExpr_B F (R04_fitExpr F) a0 a1
def R04_FitExpr (F : Nat) (a0 : api_Expr) : Option Bool :=
 (R04_fitExpr F a0 64).bind fun x2 =>
 some x2
def R04_fitData_L1 (F : Nat) (x7 : api_Con) (K2 : Unit → Option Bool) : Nat → Int → Option Bool
 | 0, _ => none
 | m + 1, v11 =>
 bif (decide (v11 < (x7.Fields.length : Int))) then ((idx x7.Fields v11).bind fun x14 =>
 (R04_FitType F x14).bind fun x15 =>
 bif (!x15) then (some false)
 else (R04_fitData_L1 F x7 K2 m (IntKind.i64.wrap (v11 + 1))))
 else (K2 ())
def R04_fitData_L0 (F : Nat) (a0 : api_Data) : Nat → Int → Option Bool
 | 0, _ => none
 | m + 1, v4 =>
 bif (decide (v4 < (a0.Cons.length : Int))) then ((idx a0.Cons v4).bind fun x7 =>
 (R03_Named F x7.Name true).bind fun x9 =>
 bif ((!x9) || (decide (6 < (x7.Fields.length : Int)))) then (some false)
 else (joinM (fun (_ : Unit) =>
 R04_fitData_L0 F a0 m (IntKind.i64.wrap (v4 + 1))) fun K2 =>
 R04_fitData_L1 F x7 K2 F 0))
 else (some true)
def R04_fitData (F : Nat) (a0 : api_Data) : Option Bool :=
 (R04_Small F a0.Name).bind fun x2 =>
 bif (((!x2) || (decide ((a0.Cons.length : Int) < 1))) || (decide (16 < (a0.Cons.length : Int)))) then (some false)
 else (R04_fitData_L0 F a0 F 0)
def R04_fitParam (F : Nat) (a0 : api_Param) : Option Bool :=
 (R03_Named F a0.Name false).bind fun x2 =>
 joinM (fun (v3 : Bool) =>
 some v3) fun K1 =>
 bif x2 then ((R04_FitType F a0.Type_).bind fun x4 =>
 K1 x4)
 else (K1 false)
def R04_fitFun_L0 (F : Nat) (a0 : api_Fun) : Nat → Int → Option Bool
 | 0, _ => none
 | m + 1, v8 =>
 bif (decide (v8 < (a0.Params.length : Int))) then ((idx a0.Params v8).bind fun x11 =>
 (R04_fitParam F x11).bind fun x12 =>
 bif (!x12) then (some false)
 else (R04_fitFun_L0 F a0 m (IntKind.i64.wrap (v8 + 1))))
 else (some true)
def R04_fitFun (F : Nat) (a0 : api_Fun) : Option Bool :=
 (R04_Called F a0.Name).bind fun x2 =>
 joinM (fun (v3 : Bool) =>
 joinM (fun (v5 : Bool) =>
 bif v5 then (some false)
 else (R04_fitFun_L0 F a0 F 0)) fun K2 =>
 bif v3 then (K2 true)
 else ((R04_FitExpr F a0.Body).bind fun x6 =>
 K2 (!x6))) fun K1 =>
 bif (((!x2) || (decide ((a0.Params.length : Int) < 1))) || (decide (6 < (a0.Params.length : Int)))) then (K1 true)
 else ((R04_FitType F a0.Result).bind fun x4 =>
 K1 (!x4))
def R04_Fit_L2 (F : Nat) (a0 : api_Prog) : Nat → Int → Option Bool
 | 0, _ => none
 | m + 1, v20 =>
 bif (decide (v20 < (a0.Hands.length : Int))) then ((idx a0.Hands v20).bind fun x23 =>
 (R03_Named F x23.Name false).bind fun x25 =>
 joinM (fun (v26 : Bool) =>
 joinM (fun (v28 : Bool) =>
 bif v28 then (some false)
 else (R04_Fit_L2 F a0 m (IntKind.i64.wrap (v20 + 1)))) fun K9 =>
 bif ((v26 || (decide (x23.Cap < 0))) || (decide (64 < x23.Cap))) then (K9 true)
 else ((R04_FitExpr F x23.Body).bind fun x29 =>
 K9 (!x29))) fun K8 =>
 bif (!x25) then (K8 true)
 else ((R04_fitParam F x23.Param).bind fun x27 =>
 K8 (!x27)))
 else (some true)
def R04_Fit_L1 (F : Nat) (a0 : api_Prog) (K5 : Unit → Option Bool) : Nat → Int → Option Bool
 | 0, _ => none
 | m + 1, v14 =>
 bif (decide (v14 < (a0.Funs.length : Int))) then ((idx a0.Funs v14).bind fun x17 =>
 (R04_fitFun F x17).bind fun x18 =>
 bif (!x18) then (some false)
 else (R04_Fit_L1 F a0 K5 m (IntKind.i64.wrap (v14 + 1))))
 else (K5 ())
def R04_Fit_L0 (F : Nat) (a0 : api_Prog) (K3 : Unit → Option Bool) : Nat → Int → Option Bool
 | 0, _ => none
 | m + 1, v8 =>
 bif (decide (v8 < (a0.Datas.length : Int))) then ((idx a0.Datas v8).bind fun x11 =>
 (R04_fitData F x11).bind fun x12 =>
 bif (!x12) then (some false)
 else (R04_Fit_L0 F a0 K3 m (IntKind.i64.wrap (v8 + 1))))
 else (K3 ())
def R04_Fit (F : Nat) (a0 : api_Prog) : Option Bool :=
 bif (((decide (32 < (a0.Datas.length : Int))) || (decide (48 < (a0.Funs.length : Int)))) || (decide (16 < (a0.Hands.length : Int)))) then (some false)
 else (joinM (fun (v3 : Bool) =>
 joinM (fun (v5 : Bool) =>
 bif v5 then (some false)
 else (joinM (fun (_ : Unit) =>
 joinM (fun (_ : Unit) =>
 R04_Fit_L2 F a0 F 0) fun K5 =>
 R04_Fit_L1 F a0 K5 F 0) fun K3 =>
 R04_Fit_L0 F a0 K3 F 0)) fun K2 =>
 bif ((v3 || (decide (a0.Cap < 0))) || (decide (256 < a0.Cap))) then (K2 true)
 else ((R04_FitExpr F a0.Init).bind fun x6 =>
 K2 (!x6))) fun K1 =>
 bif ((((decide (a0.Queue < 1)) || (decide (32 < a0.Queue))) || (decide (a0.Timers < 0))) || (decide (32 < a0.Timers))) then (K1 true)
 else ((R04_FitType F a0.State).bind fun x4 =>
 K1 (!x4)))
def ast_FitPat (F : Nat) (a0 : api_Pat) : Option Bool :=
 (ast_depth_fitPat F 64 a0).bind fun x2 =>
 some x2
def R04_FitPat (F : Nat) (a0 : api_Pat) : Option Bool :=
 (R04_fitPat F a0 64).bind fun x2 =>
 some x2
def L04_AstFits (F : Nat) (a0 : api_Prog) (a1 : api_Expr) (a2 : api_Pat) (a3 : api_Type) : Option Bool :=
 (L04_light F a0).bind fun x5 =>
 joinM (fun (v6 : Bool) =>
 joinM (fun (v8 : Bool) =>
 joinM (fun (v10 : Bool) =>
 bif v10 then ((L04_awake F).bind fun x13 =>
 some x13)
 else ((ast_Fit F a0).bind fun x14 =>
 (R04_Fit F a0).bind fun x15 =>
 joinM (fun (v16 : Bool) =>
 joinM (fun (v19 : Bool) =>
 joinM (fun (v22 : Bool) =>
 joinM (fun (v25 : Bool) =>
 some v25) fun K7 =>
 bif v22 then ((L04_awake F).bind fun x26 =>
 K7 x26)
 else (K7 false)) fun K6 =>
 bif v19 then ((ast_FitType F a3).bind fun x23 =>
 (R04_FitType F a3).bind fun x24 =>
 K6 (x23 == x24))
 else (K6 false)) fun K5 =>
 bif v16 then ((ast_FitPat F a2).bind fun x20 =>
 (R04_FitPat F a2).bind fun x21 =>
 K5 (x20 == x21))
 else (K5 false)) fun K4 =>
 bif (x14 == x15) then ((ast_FitExpr F a1).bind fun x17 =>
 (R04_FitExpr F a1).bind fun x18 =>
 K4 (x17 == x18))
 else (K4 false))) fun K3 =>
 bif v8 then (K3 true)
 else ((R04_LightType F a3 3000).bind fun x11 =>
 K3 (decide (x11 < 0)))) fun K2 =>
 bif v6 then (K2 true)
 else ((R04_LightPat F a2 3000).bind fun x9 =>
 K2 (decide (x9 < 0)))) fun K1 =>
 bif (!x5) then (K1 true)
 else ((R04_Light F a1 3000).bind fun x7 =>
 K1 (decide (x7 < 0)))
end Go.Proofs.YtappiofmkoelnaaGreatDoor.M
end
section
namespace Go.Proofs.YtappiofmkoelnaaGreatDoor.M
open Go.Proofs.YtappiofmkoelnaaGreatDoorW.Ah Go.Proofs.YtappiofmkoelnaaGreatDoor
set_option linter.unusedVariables false
set_option linter.unusedSimpArgs false
set_option maxRecDepth 8000
attribute [local simp] T.t3 T.t4 T.t9 T.t21 T.t22 T.t23 T.t24 T.t26 T.t29 T.t30 T.t31 T.t33 T.t34 T.t36 T.t37 T.t39 T.t68 T.t70 T.t72 T.t75 T.t77 T.t81 T.t83 T.t92 List.range List.range.loop
attribute [-simp] appendAV fillAV
theorem okB_R04_LightType (F : Nat) (ρ10 : api_Type → Int → Option Int) (hρ10 : ∀ a0 a1 r, ρ10 a0 a1 = some r → RunF Tryz.prog T.T 10 [.agg (c26 a0), .sc (.int .i64 a1)] (.sc (.int .i64 r))) (a0 : api_Type) (a1 : Int) (r : Int) (h : R04_LightType_B F ρ10 a0 a1 = some r) : RunF Tryz.prog T.T 10 [.agg (c26 a0), .sc (.int .i64 a1)] (.sc (.int .i64 r)) := by
  rw [R04_LightType_B] at h
  refine RunF.z Tryz.func10 rfl rfl rfl rfl rfl (fun C hr => ?_)
  refine Stk.gen (fun t H n => t 0 = .agg (c26 a0) ∧ t 1 = .sc (.int .i64 a1)) ⟨by simp, by simp⟩ ?_
  rintro t H n ⟨f0, f1⟩
  refine evY_sound (f := 2) ?_; simp [-splice, f0, f1]
  refine Stk.gen (fun t H n => t 0 = .agg (c26 a0) ∧ t 1 = .sc (.int .i64 a1)) (by and_intros <;> first | assumption | simp [-splice, f0, f1]) ?_
  clear f0 f1
  rintro t H n ⟨f0, f1⟩
  refine Stk.om (mop_box T.t26 (cs := c26 a0) (by show partOk (t 0) = true; rw [f0]; rfl) (by show cellsOf (t 0) = _; rw [f0]; rfl)) (by simp [f0, f1]) rfl (fun t' ht' => ?_)
  refine Stk.gen (fun t H n => ∃ b1, t 1 = .sc (.int .i64 a1) ∧ t 2 = .own b1 0 ∧ H b1 = some (.cells (c26 a0) 26) ∧ b1 < n) ⟨n, by simp [ht', f1], by simp [ht'], upd_same _ _ _, Nat.lt_succ_self _⟩ ?_
  clear f0 f1 ht' t'
  rintro t H n ⟨b1, f1, f2, b_b1, l_b1⟩
  refine evY_sound (f := 19) ?_; simp [-splice, f1, f2, b_b1, ld_26_1_9]
  refine Stk.gen (fun t H n => t 1 = .sc (.int .i64 (IntKind.i64.wrap ((IntKind.i64.wrap (a1 - 1)) - (if 1048576 < (a0.Name.size : Int) then 1048576 else (a0.Name.size : Int))))) ∧ t 2 = .own b1 0 ∧ t 5 = .sc (.int .i64 0) ∧ H b1 = some (.cells (c26 a0) 26) ∧ b1 < n) (by and_intros <;> first | assumption | simp [-splice, f1, f2, b_b1, ld_26_1_9]) ?_
  clear f1 f2 b_b1 l_b1
  rintro t H n ⟨f1, f2, f5, b_b1, l_b1⟩
  refine Stk.lo (fun μ t H n => ∃ v2 : Int, ∃ v3 : Int, R04_LightType_L0 F ρ10 a0 μ v2 v3 = some r ∧ t 1 = .sc (.int .i64 v2) ∧ t 2 = .own b1 0 ∧ t 5 = .sc (.int .i64 v3) ∧ H b1 = some (.cells (c26 a0) 26) ∧ b1 < n) F ⟨(IntKind.i64.wrap ((IntKind.i64.wrap (a1 - 1)) - (if 1048576 < (a0.Name.size : Int) then 1048576 else (a0.Name.size : Int)))), 0, h, f1, f2, f5, b_b1, l_b1⟩ ?_
  clear h f1 f2 f5 b_b1 l_b1
  rintro J1 hJ1 μ t H n ⟨v2, v3, h, f1, f2, f5, b_b1, l_b1⟩
  cases μ with
  | zero => exact absurd h (by simp [R04_LightType_L0])
  | succ μ =>
  rw [R04_LightType_L0] at h
  refine evY_sound (f := 9) ?_; simp [-splice, f1, f2, f5, b_b1, ld_26_2_24]
  refine Stk.gd 3 18 21 (fun z => .sc (.bool (z && (decide (0 ≤ v2))))) (w := decide (v3 < (a0.Parts.length : Int))) (by simp [-splice, f1, f2, f5, b_b1, ld_26_2_24]) (by simp [-splice, f1, f2, f5, b_b1, ld_26_2_24]) (by simp [-splice, f1, f2, f5, b_b1, ld_26_2_24]) ?_; simp [-splice, f1, f2, f5, b_b1, ld_26_2_24]
  refine evY_sound (f := 1) ?_; simp [-splice, f1, f2, f5, b_b1, ld_26_2_24]
  refine Stk.cond ((decide (v3 < (a0.Parts.length : Int))) && (decide (0 ≤ v2))) (by simp [-splice, f1, f2, f5, b_b1, ld_26_2_24]) (fun hb6 => ?_) (fun hb6 => ?_)
  ·have h := cT hb6 h
   obtain ⟨x7, hx7, h⟩ := bnd h
   obtain ⟨i0x7, i1x7, i2x7, _⟩ := idx_ok hx7
   have ex7_0_26 : partOf T.T 26 (encs c26 a0.Parts) (v3.toNat * 3) = some (.agg (c26 x7)) := by
       have e0 := part_elem0 (e := c26) (z := 3) (T := T.T) (ty := 26) T.t26 (by decide) (by decide) hx7 0 (by decide)
       (try simp only [Nat.mul_one, Nat.add_zero] at e0)
       exact e0.trans (ld_26_0_26 _)
   obtain ⟨x8, hx8, h⟩ := bnd h
   refine evY_sound (f := 10) ?_; simp [-splice, f1, f2, f5, b_b1, ld_26_2_24, i0x7, i1x7, pd26, ex7_0_26]
   refine Stk.cv (g := 10) (args := [.agg (c26 x7), .sc (.int .i64 v2)]) (args' := [.agg (c26 x7), .sc (.int .i64 v2)]) (v := .sc (.int .i64 x8)) [] (hρ10 _ _ _ hx8) (by simp [-splice, f1, f2, f5, b_b1, ld_26_2_24, i0x7, i1x7, pd26, ex7_0_26]) rfl rfl (by simp [-splice, f1, f2, f5, b_b1, ld_26_2_24, i0x7, i1x7, pd26, ex7_0_26]) (.cons (.free (fr26 _)) (.cons (.free (rfl)) (.nil))) (.inl ⟨rfl, rfl⟩) (fun t' ht' => ?_)
   subst ht'
   refine evY_sound (f := 8) ?_; simp [-splice, f1, f2, f5, b_b1, ld_26_2_24, i0x7, i1x7, pd26, ex7_0_26]
   exact Stk.ln μ (Nat.lt_succ_self _) (hJ1 _ _ _ _ ⟨x8, (IntKind.i64.wrap (v3 + 1)), h, by and_intros <;> first | assumption | simp [-splice, f1, f2, f5, b_b1, ld_26_2_24, i0x7, i1x7, pd26, ex7_0_26]⟩)
  ·have h := cF hb6 h
   refine Stk.ex rfl ?_
   refine evY_sound (f := 6) ?_; simp [-splice, f1, f2, f5, b_b1, ld_26_2_24]
   have hq := Option.some.inj h; subst hq
   exact (hr _ _ _ (.sc (.int .i64 v2)) ([]) (by simp [-splice, f1, f2, f5, b_b1, ld_26_2_24]) (.inr (.inr (.free (rfl))))).1
theorem okG_R04_LightType : ∀ F : Nat, (∀ (a0 : api_Type) (a1 : Int) (r : Int), R04_LightType F a0 a1 = some r → RunF Tryz.prog T.T 10 [.agg (c26 a0), .sc (.int .i64 a1)] (.sc (.int .i64 r)))
  | 0 => (fun a0 a1 r h => by rw [R04_LightType] at h; cases h)
  | F + 1 => (fun a0 a1 r h => okB_R04_LightType F (R04_LightType F) (okG_R04_LightType F) a0 a1 r (by rw [R04_LightType] at h; exact h))
theorem ok_R04_LightType (F : Nat) (a0 : api_Type) (a1 : Int) (r : Int) (h : R04_LightType F a0 a1 = some r) : RunF Tryz.prog T.T 10 [.agg (c26 a0), .sc (.int .i64 a1)] (.sc (.int .i64 r)) := (okG_R04_LightType F) a0 a1 r h
theorem okB_R04_LightPat (F : Nat) (ρ9 : api_Pat → Int → Option Int) (hρ9 : ∀ a0 a1 r, ρ9 a0 a1 = some r → RunF Tryz.prog T.T 9 [.agg (c39 a0), .sc (.int .i64 a1)] (.sc (.int .i64 r))) (a0 : api_Pat) (a1 : Int) (r : Int) (h : R04_LightPat_B F ρ9 a0 a1 = some r) : RunF Tryz.prog T.T 9 [.agg (c39 a0), .sc (.int .i64 a1)] (.sc (.int .i64 r)) := by
  rw [R04_LightPat_B] at h
  refine RunF.z Tryz.func9 rfl rfl rfl rfl rfl (fun C hr => ?_)
  refine Stk.gen (fun t H n => t 0 = .agg (c39 a0) ∧ t 1 = .sc (.int .i64 a1)) ⟨by simp, by simp⟩ ?_
  rintro t H n ⟨f0, f1⟩
  refine evY_sound (f := 2) ?_; simp [-splice, f0, f1]
  refine Stk.gen (fun t H n => t 0 = .agg (c39 a0) ∧ t 1 = .sc (.int .i64 a1)) (by and_intros <;> first | assumption | simp [-splice, f0, f1]) ?_
  clear f0 f1
  rintro t H n ⟨f0, f1⟩
  refine Stk.om (mop_box T.t39 (cs := c39 a0) (by show partOk (t 0) = true; rw [f0]; rfl) (by show cellsOf (t 0) = _; rw [f0]; rfl)) (by simp [f0, f1]) rfl (fun t' ht' => ?_)
  refine Stk.gen (fun t H n => ∃ b1, t 1 = .sc (.int .i64 a1) ∧ t 2 = .own b1 0 ∧ H b1 = some (.cells (c39 a0) 39) ∧ b1 < n) ⟨n, by simp [ht', f1], by simp [ht'], upd_same _ _ _, Nat.lt_succ_self _⟩ ?_
  clear f0 f1 ht' t'
  rintro t H n ⟨b1, f1, f2, b_b1, l_b1⟩
  refine evY_sound (f := 19) ?_; simp [-splice, f1, f2, b_b1, ld_39_3_9]
  refine Stk.gen (fun t H n => t 1 = .sc (.int .i64 (IntKind.i64.wrap ((IntKind.i64.wrap (a1 - 1)) - (if 1048576 < (a0.Name.size : Int) then 1048576 else (a0.Name.size : Int))))) ∧ t 2 = .own b1 0 ∧ t 5 = .sc (.int .i64 0) ∧ H b1 = some (.cells (c39 a0) 39) ∧ b1 < n) (by and_intros <;> first | assumption | simp [-splice, f1, f2, b_b1, ld_39_3_9]) ?_
  clear f1 f2 b_b1 l_b1
  rintro t H n ⟨f1, f2, f5, b_b1, l_b1⟩
  refine Stk.lo (fun μ t H n => ∃ v2 : Int, ∃ v3 : Int, R04_LightPat_L0 F ρ9 a0 μ v2 v3 = some r ∧ t 1 = .sc (.int .i64 v2) ∧ t 2 = .own b1 0 ∧ t 5 = .sc (.int .i64 v3) ∧ H b1 = some (.cells (c39 a0) 39) ∧ b1 < n) F ⟨(IntKind.i64.wrap ((IntKind.i64.wrap (a1 - 1)) - (if 1048576 < (a0.Name.size : Int) then 1048576 else (a0.Name.size : Int)))), 0, h, f1, f2, f5, b_b1, l_b1⟩ ?_
  clear h f1 f2 f5 b_b1 l_b1
  rintro J1 hJ1 μ t H n ⟨v2, v3, h, f1, f2, f5, b_b1, l_b1⟩
  cases μ with
  | zero => exact absurd h (by simp [R04_LightPat_L0])
  | succ μ =>
  rw [R04_LightPat_L0] at h
  refine evY_sound (f := 9) ?_; simp [-splice, f1, f2, f5, b_b1, ld_39_5_37]
  refine Stk.gd 3 18 21 (fun z => .sc (.bool (z && (decide (0 ≤ v2))))) (w := decide (v3 < (a0.Kids.length : Int))) (by simp [-splice, f1, f2, f5, b_b1, ld_39_5_37]) (by simp [-splice, f1, f2, f5, b_b1, ld_39_5_37]) (by simp [-splice, f1, f2, f5, b_b1, ld_39_5_37]) ?_; simp [-splice, f1, f2, f5, b_b1, ld_39_5_37]
  refine evY_sound (f := 1) ?_; simp [-splice, f1, f2, f5, b_b1, ld_39_5_37]
  refine Stk.cond ((decide (v3 < (a0.Kids.length : Int))) && (decide (0 ≤ v2))) (by simp [-splice, f1, f2, f5, b_b1, ld_39_5_37]) (fun hb6 => ?_) (fun hb6 => ?_)
  ·have h := cT hb6 h
   obtain ⟨x7, hx7, h⟩ := bnd h
   obtain ⟨i0x7, i1x7, i2x7, _⟩ := idx_ok hx7
   have ex7_0_39 : partOf T.T 39 (encs c39 a0.Kids) (v3.toNat * 6) = some (.agg (c39 x7)) := by
       have e0 := part_elem0 (e := c39) (z := 6) (T := T.T) (ty := 39) T.t39 (by decide) (by decide) hx7 0 (by decide)
       (try simp only [Nat.mul_one, Nat.add_zero] at e0)
       exact e0.trans (ld_39_0_39 _)
   obtain ⟨x8, hx8, h⟩ := bnd h
   refine evY_sound (f := 10) ?_; simp [-splice, f1, f2, f5, b_b1, ld_39_5_37, i0x7, i1x7, pd39, ex7_0_39]
   refine Stk.cv (g := 9) (args := [.agg (c39 x7), .sc (.int .i64 v2)]) (args' := [.agg (c39 x7), .sc (.int .i64 v2)]) (v := .sc (.int .i64 x8)) [] (hρ9 _ _ _ hx8) (by simp [-splice, f1, f2, f5, b_b1, ld_39_5_37, i0x7, i1x7, pd39, ex7_0_39]) rfl rfl (by simp [-splice, f1, f2, f5, b_b1, ld_39_5_37, i0x7, i1x7, pd39, ex7_0_39]) (.cons (.free (fr39 _)) (.cons (.free (rfl)) (.nil))) (.inl ⟨rfl, rfl⟩) (fun t' ht' => ?_)
   subst ht'
   refine evY_sound (f := 8) ?_; simp [-splice, f1, f2, f5, b_b1, ld_39_5_37, i0x7, i1x7, pd39, ex7_0_39]
   exact Stk.ln μ (Nat.lt_succ_self _) (hJ1 _ _ _ _ ⟨x8, (IntKind.i64.wrap (v3 + 1)), h, by and_intros <;> first | assumption | simp [-splice, f1, f2, f5, b_b1, ld_39_5_37, i0x7, i1x7, pd39, ex7_0_39]⟩)
  ·have h := cF hb6 h
   refine Stk.ex rfl ?_
   refine evY_sound (f := 6) ?_; simp [-splice, f1, f2, f5, b_b1, ld_39_5_37]
   have hq := Option.some.inj h; subst hq
   exact (hr _ _ _ (.sc (.int .i64 v2)) ([]) (by simp [-splice, f1, f2, f5, b_b1, ld_39_5_37]) (.inr (.inr (.free (rfl))))).1
theorem okG_R04_LightPat : ∀ F : Nat, (∀ (a0 : api_Pat) (a1 : Int) (r : Int), R04_LightPat F a0 a1 = some r → RunF Tryz.prog T.T 9 [.agg (c39 a0), .sc (.int .i64 a1)] (.sc (.int .i64 r)))
  | 0 => (fun a0 a1 r h => by rw [R04_LightPat] at h; cases h)
  | F + 1 => (fun a0 a1 r h => okB_R04_LightPat F (R04_LightPat F) (okG_R04_LightPat F) a0 a1 r (by rw [R04_LightPat] at h; exact h))
theorem ok_R04_LightPat (F : Nat) (a0 : api_Pat) (a1 : Int) (r : Int) (h : R04_LightPat F a0 a1 = some r) : RunF Tryz.prog T.T 9 [.agg (c39 a0), .sc (.int .i64 a1)] (.sc (.int .i64 r)) := (okG_R04_LightPat F) a0 a1 r h
theorem okB_R04_Light (F : Nat) (ρ8 : api_Expr → Int → Option Int) (hρ8 : ∀ a0 a1 r, ρ8 a0 a1 = some r → RunF Tryz.prog T.T 8 [.agg (c33 a0), .sc (.int .i64 a1)] (.sc (.int .i64 r))) (a0 : api_Expr) (a1 : Int) (r : Int) (h : R04_Light_B F ρ8 a0 a1 = some r) : RunF Tryz.prog T.T 8 [.agg (c33 a0), .sc (.int .i64 a1)] (.sc (.int .i64 r)) := by
  rw [R04_Light_B] at h
  refine RunF.z Tryz.func8 rfl rfl rfl rfl rfl (fun C hr => ?_)
  refine Stk.gen (fun t H n => t 0 = .agg (c33 a0) ∧ t 1 = .sc (.int .i64 a1)) ⟨by simp, by simp⟩ ?_
  rintro t H n ⟨f0, f1⟩
  refine evY_sound (f := 2) ?_; simp [-splice, f0, f1]
  refine Stk.gen (fun t H n => t 0 = .agg (c33 a0) ∧ t 1 = .sc (.int .i64 a1)) (by and_intros <;> first | assumption | simp [-splice, f0, f1]) ?_
  clear f0 f1
  rintro t H n ⟨f0, f1⟩
  refine Stk.om (mop_box T.t33 (cs := c33 a0) (by show partOk (t 0) = true; rw [f0]; rfl) (by show cellsOf (t 0) = _; rw [f0]; rfl)) (by simp [f0, f1]) rfl (fun t' ht' => ?_)
  refine Stk.gen (fun t H n => ∃ b1, t 1 = .sc (.int .i64 a1) ∧ t 2 = .own b1 0 ∧ H b1 = some (.cells (c33 a0) 33) ∧ b1 < n) ⟨n, by simp [ht', f1], by simp [ht'], upd_same _ _ _, Nat.lt_succ_self _⟩ ?_
  clear f0 f1 ht' t'
  rintro t H n ⟨b1, f1, f2, b_b1, l_b1⟩
  refine evY_sound (f := 23) ?_; simp [-splice, f1, f2, b_b1, ld_33_4_29, ld_33_5_9]
  obtain ⟨K1, hK1, h⟩ := jnd h
  refine Stk.jn (fun t H n => ∃ v2 : Int, K1 v2 = some r ∧ t 1 = .sc (.int .i64 v2) ∧ t 2 = .own b1 0 ∧ H b1 = some (.cells (c33 a0) 33) ∧ b1 < n) trivial (fun J1 hJ1 => ?_) ?_
  · skip
    refine evY_sound (f := 1) ?_; simp [-splice, f1, f2, b_b1, ld_33_4_29, ld_33_5_9]
    refine Stk.gen (fun t H n => t 1 = .sc (.int .i64 (IntKind.i64.wrap ((IntKind.i64.wrap ((IntKind.i64.wrap (a1 - 1)) - (if 1048576 < (a0.Bytes.length : Int) then 1048576 else (a0.Bytes.length : Int)))) - (if 1048576 < (a0.Name.size : Int) then 1048576 else (a0.Name.size : Int))))) ∧ t 2 = .own b1 0 ∧ t 5 = .sc (.int .i64 0) ∧ H b1 = some (.cells (c33 a0) 33) ∧ b1 < n) (by and_intros <;> first | assumption | simp [-splice, f1, f2, b_b1, ld_33_4_29, ld_33_5_9]) ?_
    clear f1 f2 b_b1 l_b1
    rintro t H n ⟨f1, f2, f5, b_b1, l_b1⟩
    refine Stk.lo (fun μ t H n => ∃ v3 : Int, ∃ v4 : Int, R04_Light_L0 F ρ8 a0 K1 μ v3 v4 = some r ∧ t 1 = .sc (.int .i64 v3) ∧ t 2 = .own b1 0 ∧ t 5 = .sc (.int .i64 v4) ∧ H b1 = some (.cells (c33 a0) 33) ∧ b1 < n) F ⟨(IntKind.i64.wrap ((IntKind.i64.wrap ((IntKind.i64.wrap (a1 - 1)) - (if 1048576 < (a0.Bytes.length : Int) then 1048576 else (a0.Bytes.length : Int)))) - (if 1048576 < (a0.Name.size : Int) then 1048576 else (a0.Name.size : Int)))), 0, h, f1, f2, f5, b_b1, l_b1⟩ ?_
    clear h f1 f2 f5 b_b1 l_b1
    rintro J2 hJ2 μ t H n ⟨v3, v4, h, f1, f2, f5, b_b1, l_b1⟩
    cases μ with
    | zero => exact absurd h (by simp [R04_Light_L0])
    | succ μ =>
    rw [R04_Light_L0] at h
    refine evY_sound (f := 9) ?_; simp [-splice, f1, f2, f5, b_b1, ld_33_6_30]
    refine Stk.gd 3 24 27 (fun z => .sc (.bool (z && (decide (0 ≤ v3))))) (w := decide (v4 < (a0.Kids.length : Int))) (by simp [-splice, f1, f2, f5, b_b1, ld_33_6_30]) (by simp [-splice, f1, f2, f5, b_b1, ld_33_6_30]) (by simp [-splice, f1, f2, f5, b_b1, ld_33_6_30]) ?_; simp [-splice, f1, f2, f5, b_b1, ld_33_6_30]
    refine evY_sound (f := 1) ?_; simp [-splice, f1, f2, f5, b_b1, ld_33_6_30]
    refine Stk.cond ((decide (v4 < (a0.Kids.length : Int))) && (decide (0 ≤ v3))) (by simp [-splice, f1, f2, f5, b_b1, ld_33_6_30]) (fun hb7 => ?_) (fun hb7 => ?_)
    ·have h := cT hb7 h
     obtain ⟨x8, hx8, h⟩ := bnd h
     obtain ⟨i0x8, i1x8, i2x8, _⟩ := idx_ok hx8
     have ex8_0_33 : partOf T.T 33 (encs c33 a0.Kids) (v4.toNat * 8) = some (.agg (c33 x8)) := by
         have e0 := part_elem0 (e := c33) (z := 8) (T := T.T) (ty := 33) T.t33 (by decide) (by decide) hx8 0 (by decide)
         (try simp only [Nat.mul_one, Nat.add_zero] at e0)
         exact e0.trans (ld_33_0_33 _)
     obtain ⟨x9, hx9, h⟩ := bnd h
     refine evY_sound (f := 10) ?_; simp [-splice, f1, f2, f5, b_b1, ld_33_6_30, i0x8, i1x8, pd33, ex8_0_33]
     refine Stk.cv (g := 8) (args := [.agg (c33 x8), .sc (.int .i64 v3)]) (args' := [.agg (c33 x8), .sc (.int .i64 v3)]) (v := .sc (.int .i64 x9)) [] (hρ8 _ _ _ hx9) (by simp [-splice, f1, f2, f5, b_b1, ld_33_6_30, i0x8, i1x8, pd33, ex8_0_33]) rfl rfl (by simp [-splice, f1, f2, f5, b_b1, ld_33_6_30, i0x8, i1x8, pd33, ex8_0_33]) (.cons (.free (fr33 _)) (.cons (.free (rfl)) (.nil))) (.inl ⟨rfl, rfl⟩) (fun t' ht' => ?_)
     subst ht'
     refine evY_sound (f := 8) ?_; simp [-splice, f1, f2, f5, b_b1, ld_33_6_30, i0x8, i1x8, pd33, ex8_0_33]
     exact Stk.ln μ (Nat.lt_succ_self _) (hJ2 _ _ _ _ ⟨x9, (IntKind.i64.wrap (v4 + 1)), h, by and_intros <;> first | assumption | simp [-splice, f1, f2, f5, b_b1, ld_33_6_30, i0x8, i1x8, pd33, ex8_0_33]⟩)
    ·have h := cF hb7 h
     refine Stk.ex rfl ?_
     exact Stk.ln 0 (by decide) (hJ1 _ _ _ ⟨v3, h, by and_intros <;> first | assumption | simp [-splice, f1, f2, f5, b_b1, ld_33_6_30]⟩)
  clear h f1 f2 b_b1 l_b1
  rintro t H n ⟨v2, h, f1, f2, b_b1, l_b1⟩
  subst hK1
  refine evY_sound (f := 6) ?_; simp [-splice, f1, f2, b_b1]
  refine Stk.gen (fun t H n => t 1 = .sc (.int .i64 v2) ∧ t 2 = .own b1 0 ∧ t 6 = .sc (.int .i64 0) ∧ H b1 = some (.cells (c33 a0) 33) ∧ b1 < n) (by and_intros <;> first | assumption | simp [-splice, f1, f2, b_b1]) ?_
  clear f1 f2 b_b1 l_b1
  rintro t H n ⟨f1, f2, f6, b_b1, l_b1⟩
  refine Stk.lo (fun μ t H n => ∃ v10 : Int, ∃ v11 : Int, R04_Light_L1 F ρ8 a0 μ v10 v11 = some r ∧ t 1 = .sc (.int .i64 v10) ∧ t 2 = .own b1 0 ∧ t 6 = .sc (.int .i64 v11) ∧ H b1 = some (.cells (c33 a0) 33) ∧ b1 < n) F ⟨v2, 0, h, f1, f2, f6, b_b1, l_b1⟩ ?_
  clear h f1 f2 f6 b_b1 l_b1
  rintro J3 hJ3 μ t H n ⟨v10, v11, h, f1, f2, f6, b_b1, l_b1⟩
  cases μ with
  | zero => exact absurd h (by simp [R04_Light_L1])
  | succ μ =>
  rw [R04_Light_L1] at h
  refine evY_sound (f := 9) ?_; simp [-splice, f1, f2, f6, b_b1, ld_33_7_31]
  refine Stk.gd 3 42 45 (fun z => .sc (.bool (z && (decide (0 ≤ v10))))) (w := decide (v11 < (a0.Arms.length : Int))) (by simp [-splice, f1, f2, f6, b_b1, ld_33_7_31]) (by simp [-splice, f1, f2, f6, b_b1, ld_33_7_31]) (by simp [-splice, f1, f2, f6, b_b1, ld_33_7_31]) ?_; simp [-splice, f1, f2, f6, b_b1, ld_33_7_31]
  refine evY_sound (f := 1) ?_; simp [-splice, f1, f2, f6, b_b1, ld_33_7_31]
  refine Stk.cond ((decide (v11 < (a0.Arms.length : Int))) && (decide (0 ≤ v10))) (by simp [-splice, f1, f2, f6, b_b1, ld_33_7_31]) (fun hb14 => ?_) (fun hb14 => ?_)
  ·have h := cT hb14 h
   refine evY_sound (f := 3) ?_; simp [-splice, f1, f2, f6, b_b1, ld_33_7_31]
   refine Stk.gen (fun t H n => t 1 = .sc (.int .i64 v10) ∧ t 2 = .own b1 0 ∧ t 6 = .sc (.int .i64 v11) ∧ t 45 = .sc (.bool ((decide (v11 < (a0.Arms.length : Int))) && (decide (0 ≤ v10)))) ∧ H b1 = some (.cells (c33 a0) 33) ∧ b1 < n) (by and_intros <;> first | assumption | simp [-splice, f1, f2, f6, b_b1, ld_33_7_31]) ?_
   clear f1 f2 f6 b_b1 l_b1
   rintro t H n ⟨f1, f2, f6, f45, b_b1, l_b1⟩
   obtain ⟨n0, hn0⟩ : ∃ m, m = n := ⟨n, rfl⟩
   have ln0 : n0 ≤ n := Nat.le_of_eq hn0
   refine Stk.rgD [.rd [], .rd [b1], .rd [], .rd [], .rd [], .rd [], .rd [], .rd [b1], .rd [], .rd [], .rd [], .rd [], .rd [], .rd [], .rd [], .rd []] none (by kernel_rfl) (by rfl) rfl (by simp [below, hn0, l_b1]) rfl ?_
   obtain ⟨x15, hx15, h⟩ := bnd h
   obtain ⟨i0x15, i1x15, i2x15, _⟩ := idx_ok hx15
   have ex15_6_33 : partOf T.T 33 (encs c68 a0.Arms) (v11.toNat * 14 + 6) = some (.agg (c33 x15.Body)) := by
       have e0 := part_elem0 (e := c68) (z := 14) (T := T.T) (ty := 33) T.t33 (by decide) (by decide) hx15 6 (by decide)
       (try simp only [Nat.mul_one, Nat.add_zero] at e0)
       exact e0.trans (ld_68_6_33 _)
   have ex15_0_39 : partOf T.T 39 (encs c68 a0.Arms) (v11.toNat * 14) = some (.agg (c39 x15.Pat)) := by
       have e0 := part_elem0 (e := c68) (z := 14) (T := T.T) (ty := 39) T.t39 (by decide) (by decide) hx15 0 (by decide)
       (try simp only [Nat.mul_one, Nat.add_zero] at e0)
       exact e0.trans (ld_68_0_39 _)
   obtain ⟨x16, hx16, h⟩ := bnd h
   refine evY_sound (f := 13) ?_; simp [-splice, f1, f2, f6, f45, b_b1, ld_33_7_31, i0x15, i1x15, pd33, ex15_6_33, pd39, ex15_0_39]
   refine Stk.cvD (g := 9) (args := [.agg (c39 x15.Pat), .sc (.int .i64 v10)]) (args' := [.agg (c39 x15.Pat), .sc (.int .i64 v10)]) (v := .sc (.int .i64 x16)) [] (ok_R04_LightPat F _ _ _ hx16) rfl (by simp) rfl (by simp [-splice, f1, f2, f6, f45, b_b1, ld_33_7_31, i0x15, i1x15, pd33, ex15_6_33, pd39, ex15_0_39]) rfl rfl (by simp [-splice, f1, f2, f6, f45, b_b1, ld_33_7_31, i0x15, i1x15, pd33, ex15_6_33, pd39, ex15_0_39]) (.cons (.free (fr39 _)) (.cons (.free (rfl)) (.nil))) (.inl ⟨rfl, rfl⟩) (fun t' ht' => ?_)
   subst ht'
   obtain ⟨x17, hx17, h⟩ := bnd h
   refine Stk.cvD (g := 8) (args := [.agg (c33 x15.Body), .sc (.int .i64 x16)]) (args' := [.agg (c33 x15.Body), .sc (.int .i64 x16)]) (v := .sc (.int .i64 x17)) [] (hρ8 _ _ _ hx17) rfl (by simp) rfl (by simp [-splice, f1, f2, f6, f45, b_b1, ld_33_7_31, i0x15, i1x15, pd33, ex15_6_33, pd39, ex15_0_39]) rfl rfl (by simp [-splice, f1, f2, f6, f45, b_b1, ld_33_7_31, i0x15, i1x15, pd33, ex15_6_33, pd39, ex15_0_39]) (.cons (.free (fr33 _)) (.cons (.free (rfl)) (.nil))) (.inl ⟨rfl, rfl⟩) (fun t' ht' => ?_)
   subst ht'
   refine evY_sound (f := 8) ?_; simp [-splice, f1, f2, f6, f45, b_b1, ld_33_7_31, i0x15, i1x15, pd33, ex15_6_33, pd39, ex15_0_39]
   exact Stk.ln μ (Nat.lt_succ_self _) (hJ3 _ _ _ _ ⟨x17, (IntKind.i64.wrap (v11 + 1)), h, by and_intros <;> first | assumption | simp [-splice, f1, f2, f6, f45, b_b1, ld_33_7_31, i0x15, i1x15, pd33, ex15_6_33, pd39, ex15_0_39]⟩)
  ·have h := cF hb14 h
   refine Stk.ex rfl ?_
   refine evY_sound (f := 6) ?_; simp [-splice, f1, f2, f6, b_b1, ld_33_7_31]
   have hq := Option.some.inj h; subst hq
   exact (hr _ _ _ (.sc (.int .i64 v10)) ([]) (by simp [-splice, f1, f2, f6, b_b1, ld_33_7_31]) (.inr (.inr (.free (rfl))))).1
theorem okG_R04_Light : ∀ F : Nat, (∀ (a0 : api_Expr) (a1 : Int) (r : Int), R04_Light F a0 a1 = some r → RunF Tryz.prog T.T 8 [.agg (c33 a0), .sc (.int .i64 a1)] (.sc (.int .i64 r)))
  | 0 => (fun a0 a1 r h => by rw [R04_Light] at h; cases h)
  | F + 1 => (fun a0 a1 r h => okB_R04_Light F (R04_Light F) (okG_R04_Light F) a0 a1 r (by rw [R04_Light] at h; exact h))
theorem ok_R04_Light (F : Nat) (a0 : api_Expr) (a1 : Int) (r : Int) (h : R04_Light F a0 a1 = some r) : RunF Tryz.prog T.T 8 [.agg (c33 a0), .sc (.int .i64 a1)] (.sc (.int .i64 r)) := (okG_R04_Light F) a0 a1 r h
theorem ok_R04_LightProg (F : Nat) (a0 : api_Prog) (a1 : Int) (r : Int) (h : R04_LightProg F a0 a1 = some r) : RunF Tryz.prog T.T 21 [.agg (c36 a0), .sc (.int .i64 a1)] (.sc (.int .i64 r)) := by
  rw [R04_LightProg] at h
  refine RunF.z Tryz.func21 rfl rfl rfl rfl rfl (fun C hr => ?_)
  refine Stk.gen (fun t H n => t 0 = .agg (c36 a0) ∧ t 1 = .sc (.int .i64 a1)) ⟨by simp, by simp⟩ ?_
  rintro t H n ⟨f0, f1⟩
  refine evY_sound (f := 2) ?_; simp [-splice, f0, f1]
  refine Stk.gen (fun t H n => t 0 = .agg (c36 a0) ∧ t 1 = .sc (.int .i64 a1)) (by and_intros <;> first | assumption | simp [-splice, f0, f1]) ?_
  clear f0 f1
  rintro t H n ⟨f0, f1⟩
  refine Stk.om (mop_box T.t36 (cs := c36 a0) (by show partOk (t 0) = true; rw [f0]; rfl) (by show cellsOf (t 0) = _; rw [f0]; rfl)) (by simp [f0, f1]) rfl (fun t' ht' => ?_)
  refine Stk.gen (fun t H n => ∃ b1, t 1 = .sc (.int .i64 a1) ∧ t 2 = .own b1 0 ∧ H b1 = some (.cells (c36 a0) 36) ∧ b1 < n) ⟨n, by simp [ht', f1], by simp [ht'], upd_same _ _ _, Nat.lt_succ_self _⟩ ?_
  clear f0 f1 ht' t'
  rintro t H n ⟨b1, f1, f2, b_b1, l_b1⟩
  refine evY_sound (f := 3) ?_; simp [-splice, f1, f2, b_b1]
  refine Stk.gen (fun t H n => t 1 = .sc (.int .i64 a1) ∧ t 2 = .own b1 0 ∧ H b1 = some (.cells (c36 a0) 36) ∧ b1 < n) (by and_intros <;> first | assumption | simp [-splice, f1, f2, b_b1]) ?_
  clear f1 f2 b_b1 l_b1
  rintro t H n ⟨f1, f2, b_b1, l_b1⟩
  obtain ⟨n0, hn0⟩ : ∃ m, m = n := ⟨n, rfl⟩
  have ln0 : n0 ≤ n := Nat.le_of_eq hn0
  refine Stk.rgD [.rd [], .rd [b1], .rd [], .rd [b1], .rd [], .rd [], .rd [], .rd []] none (by kernel_rfl) (by rfl) rfl (by simp [below, hn0, l_b1]) rfl ?_
  obtain ⟨x2, hx2, h⟩ := bnd h
  refine evY_sound (f := 5) ?_; simp [-splice, f1, f2, b_b1, ld_36_8_33, ld_36_4_26]
  refine Stk.cvD (g := 10) (args := [.agg (c26 a0.State), .sc (.int .i64 a1)]) (args' := [.agg (c26 a0.State), .sc (.int .i64 a1)]) (v := .sc (.int .i64 x2)) [] (ok_R04_LightType F _ _ _ hx2) rfl (by simp) rfl (by simp [-splice, f1, f2, b_b1, ld_36_8_33, ld_36_4_26]) rfl rfl (by simp [-splice, f1, f2, b_b1, ld_36_8_33, ld_36_4_26]) (.cons (.free (fr26 _)) (.cons (.free (rfl)) (.nil))) (.inl ⟨rfl, rfl⟩) (fun t' ht' => ?_)
  subst ht'
  obtain ⟨x3, hx3, h⟩ := bnd h
  refine Stk.cvD (g := 8) (args := [.agg (c33 a0.Init), .sc (.int .i64 x2)]) (args' := [.agg (c33 a0.Init), .sc (.int .i64 x2)]) (v := .sc (.int .i64 x3)) [] (ok_R04_Light F _ _ _ hx3) rfl (by simp) rfl (by simp [-splice, f1, f2, b_b1, ld_36_8_33, ld_36_4_26]) rfl rfl (by simp [-splice, f1, f2, b_b1, ld_36_8_33, ld_36_4_26]) (.cons (.free (fr33 _)) (.cons (.free (rfl)) (.nil))) (.inl ⟨rfl, rfl⟩) (fun t' ht' => ?_)
  subst ht'
  refine evY_sound (f := 7) ?_; simp [-splice, f1, f2, b_b1, ld_36_8_33, ld_36_4_26]
  obtain ⟨K1, hK1, h⟩ := jnd h
  refine Stk.jn (fun t H n => ∃ v4 : Int, K1 v4 = some r ∧ t 1 = .sc (.int .i64 v4) ∧ t 2 = .own b1 0 ∧ H b1 = some (.cells (c36 a0) 36) ∧ b1 < n) trivial (fun J1 hJ1 => ?_) ?_
  · skip
    refine evY_sound (f := 1) ?_; simp [-splice, f1, f2, b_b1, ld_36_8_33, ld_36_4_26]
    refine Stk.gen (fun t H n => t 1 = .sc (.int .i64 x3) ∧ t 2 = .own b1 0 ∧ t 5 = .sc (.int .i64 0) ∧ H b1 = some (.cells (c36 a0) 36) ∧ b1 < n ∧ n0 ≤ n) (by and_intros <;> first | assumption | simp [-splice, f1, f2, b_b1, ld_36_8_33, ld_36_4_26]) ?_
    clear f1 f2 b_b1 l_b1 ln0
    rintro t H n ⟨f1, f2, f5, b_b1, l_b1, ln0⟩
    refine Stk.lo (fun μ t H n => ∃ v5 : Int, ∃ v6 : Int, R04_LightProg_L0 F a0 K1 μ v5 v6 = some r ∧ t 1 = .sc (.int .i64 v5) ∧ t 2 = .own b1 0 ∧ t 5 = .sc (.int .i64 v6) ∧ H b1 = some (.cells (c36 a0) 36) ∧ b1 < n) F ⟨x3, 0, h, f1, f2, f5, b_b1, l_b1⟩ ?_
    clear h f1 f2 f5 b_b1 l_b1 ln0
    rintro J2 hJ2 μ t H n ⟨v5, v6, h, f1, f2, f5, b_b1, l_b1⟩
    cases μ with
    | zero => exact absurd h (by simp [R04_LightProg_L0])
    | succ μ =>
    rw [R04_LightProg_L0] at h
    refine evY_sound (f := 9) ?_; simp [-splice, f1, f2, f5, b_b1, ld_36_0_22]
    refine Stk.gd 3 24 27 (fun z => .sc (.bool (z && (decide (0 ≤ v5))))) (w := decide (v6 < (a0.Datas.length : Int))) (by simp [-splice, f1, f2, f5, b_b1, ld_36_0_22]) (by simp [-splice, f1, f2, f5, b_b1, ld_36_0_22]) (by simp [-splice, f1, f2, f5, b_b1, ld_36_0_22]) ?_; simp [-splice, f1, f2, f5, b_b1, ld_36_0_22]
    refine evY_sound (f := 1) ?_; simp [-splice, f1, f2, f5, b_b1, ld_36_0_22]
    refine Stk.cond ((decide (v6 < (a0.Datas.length : Int))) && (decide (0 ≤ v5))) (by simp [-splice, f1, f2, f5, b_b1, ld_36_0_22]) (fun hb9 => ?_) (fun hb9 => ?_)
    ·have h := cT hb9 h
     obtain ⟨x10, hx10, h⟩ := bnd h
     obtain ⟨i0x10, i1x10, i2x10, _⟩ := idx_ok hx10
     have ex10_2_9 : partOf T.T 9 (encs c72 a0.Datas) (v6.toNat * 4 + 2) = some (.sc (.string x10.Name)) := by
         have e0 := part_elem0 (e := c72) (z := 4) (T := T.T) (ty := 9) T.t9 (by decide) (by decide) hx10 2 (by decide)
         (try simp only [Nat.mul_one, Nat.add_zero] at e0)
         exact e0.trans (ld_72_2_9 _)
     refine evY_sound (f := 22) ?_; simp [-splice, f1, f2, f5, b_b1, ld_36_0_22, i0x10, i1x10, pd9, ex10_2_9]
     obtain ⟨K3, hK3, h⟩ := jnd h
     refine Stk.jn (fun t H n => ∃ v11 : Int, K3 v11 = some r ∧ t 1 = .sc (.int .i64 v11) ∧ t 2 = .own b1 0 ∧ t 5 = .sc (.int .i64 v6) ∧ H b1 = some (.cells (c36 a0) 36) ∧ b1 < n) trivial (fun J3 hJ3 => ?_) ?_
     · skip
       refine evY_sound (f := 1) ?_; simp [-splice, f1, f2, f5, b_b1, ld_36_0_22, i0x10, i1x10, pd9, ex10_2_9]
       refine Stk.gen (fun t H n => t 1 = .sc (.int .i64 (IntKind.i64.wrap ((IntKind.i64.wrap (v5 - 1)) - (if 1048576 < (x10.Name.size : Int) then 1048576 else (x10.Name.size : Int))))) ∧ t 2 = .own b1 0 ∧ t 5 = .sc (.int .i64 v6) ∧ t 6 = .sc (.int .i64 0) ∧ H b1 = some (.cells (c36 a0) 36) ∧ b1 < n) (by and_intros <;> first | assumption | simp [-splice, f1, f2, f5, b_b1, ld_36_0_22, i0x10, i1x10, pd9, ex10_2_9]) ?_
       clear f1 f2 f5 b_b1 l_b1
       rintro t H n ⟨f1, f2, f5, f6, b_b1, l_b1⟩
       refine Stk.lo (fun μ t H n => ∃ v12 : Int, ∃ v13 : Int, R04_LightProg_L1 F a0 v6 K3 μ v12 v13 = some r ∧ t 1 = .sc (.int .i64 v12) ∧ t 2 = .own b1 0 ∧ t 5 = .sc (.int .i64 v6) ∧ t 6 = .sc (.int .i64 v13) ∧ H b1 = some (.cells (c36 a0) 36) ∧ b1 < n) F ⟨(IntKind.i64.wrap ((IntKind.i64.wrap (v5 - 1)) - (if 1048576 < (x10.Name.size : Int) then 1048576 else (x10.Name.size : Int)))), 0, h, f1, f2, f5, f6, b_b1, l_b1⟩ ?_
       clear h f1 f2 f5 f6 b_b1 l_b1
       rintro J4 hJ4 μ t H n ⟨v12, v13, h, f1, f2, f5, f6, b_b1, l_b1⟩
       cases μ with
       | zero => exact absurd h (by simp [R04_LightProg_L1])
       | succ μ =>
       rw [R04_LightProg_L1] at h
       obtain ⟨x16, hx16, h⟩ := bnd h
       obtain ⟨i0x16, i1x16, i2x16, _⟩ := idx_ok hx16
       have ex16_3_70 : partOf T.T 70 (encs c72 a0.Datas) (v6.toNat * 4 + 3) = some (.ssl (encs c92 x16.Cons) x16.Cons.length false) := by
           have e0 := part_elem0 (e := c72) (z := 4) (T := T.T) (ty := 70) T.t70 (by decide) (by decide) hx16 3 (by decide)
           (try simp only [Nat.mul_one, Nat.add_zero] at e0)
           exact e0.trans (ld_72_3_70 _)
       refine evY_sound (f := 13) ?_; simp [-splice, f1, f2, f5, f6, b_b1, ld_36_0_22, i0x16, i1x16, pd70, ex16_3_70]
       refine Stk.gd 3 50 53 (fun z => .sc (.bool (z && (decide (0 ≤ v12))))) (w := decide (v13 < (x16.Cons.length : Int))) (by simp [-splice, f1, f2, f5, f6, b_b1, ld_36_0_22, i0x16, i1x16, pd70, ex16_3_70]) (by simp [-splice, f1, f2, f5, f6, b_b1, ld_36_0_22, i0x16, i1x16, pd70, ex16_3_70]) (by simp [-splice, f1, f2, f5, f6, b_b1, ld_36_0_22, i0x16, i1x16, pd70, ex16_3_70]) ?_; simp [-splice, f1, f2, f5, f6, b_b1, ld_36_0_22, i0x16, i1x16, pd70, ex16_3_70]
       refine evY_sound (f := 1) ?_; simp [-splice, f1, f2, f5, f6, b_b1, ld_36_0_22, i0x16, i1x16, pd70, ex16_3_70]
       refine Stk.cond ((decide (v13 < (x16.Cons.length : Int))) && (decide (0 ≤ v12))) (by simp [-splice, f1, f2, f5, f6, b_b1, ld_36_0_22, i0x16, i1x16, pd70, ex16_3_70]) (fun hb17 => ?_) (fun hb17 => ?_)
       ·have h := cT hb17 h
        refine evY_sound (f := 3) ?_; simp [-splice, f1, f2, f5, f6, b_b1, ld_36_0_22, i0x16, i1x16, pd70, ex16_3_70]
        refine Stk.gen (fun t H n => t 1 = .sc (.int .i64 v12) ∧ t 2 = .own b1 0 ∧ t 5 = .sc (.int .i64 v6) ∧ t 6 = .sc (.int .i64 v13) ∧ t 53 = .sc (.bool ((decide (v13 < (x16.Cons.length : Int))) && (decide (0 ≤ v12)))) ∧ H b1 = some (.cells (c36 a0) 36) ∧ b1 < n) (by and_intros <;> first | assumption | simp [-splice, f1, f2, f5, f6, b_b1, ld_36_0_22, i0x16, i1x16, pd70, ex16_3_70]) ?_
        clear f1 f2 f5 f6 b_b1 l_b1
        rintro t H n ⟨f1, f2, f5, f6, f53, b_b1, l_b1⟩
        obtain ⟨n0, hn0⟩ : ∃ m, m = n := ⟨n, rfl⟩
        have ln0 : n0 ≤ n := Nat.le_of_eq hn0
        refine Stk.rgD [.rd [], .rd [b1], .rd [], .rd [], .rd [], .rd [], .rd [], .rd [], .rd [], .rd [], .rd [], .rd [b1], .rd [], .rd [], .rd [], .rd [], .rd [], .rd [], .rd [], .rd [], .rd [], .rd [], .rd [], .rd []] none (by kernel_rfl) (by rfl) rfl (by simp [below, hn0, l_b1]) rfl ?_
        obtain ⟨x18, hx18, h⟩ := bnd h
        obtain ⟨i0x18, i1x18, i2x18, _⟩ := idx_ok hx18
        have ex18_3_70 : partOf T.T 70 (encs c72 a0.Datas) (v6.toNat * 4 + 3) = some (.ssl (encs c92 x18.Cons) x18.Cons.length false) := by
            have e0 := part_elem0 (e := c72) (z := 4) (T := T.T) (ty := 70) T.t70 (by decide) (by decide) hx18 3 (by decide)
            (try simp only [Nat.mul_one, Nat.add_zero] at e0)
            exact e0.trans (ld_72_3_70 _)
        obtain ⟨x19, hx19, h⟩ := bnd h
        obtain ⟨i0x19, i1x19, i2x19, _⟩ := idx_ok hx19
        have ex19_0_9 : partOf T.T 9 (encs c92 x18.Cons) (v13.toNat * 2) = some (.sc (.string x19.Name)) := by
            have e0 := part_elem0 (e := c92) (z := 2) (T := T.T) (ty := 9) T.t9 (by decide) (by decide) hx19 0 (by decide)
            (try simp only [Nat.mul_one, Nat.add_zero] at e0)
            exact e0.trans (ld_92_0_9 _)
        have ex18_3_70 : partOf T.T 70 (encs c72 a0.Datas) (v6.toNat * 4 + 3) = some (.ssl (encs c92 x18.Cons) x18.Cons.length false) := by
            have e0 := part_elem0 (e := c72) (z := 4) (T := T.T) (ty := 70) T.t70 (by decide) (by decide) hx18 3 (by decide)
            (try simp only [Nat.mul_one, Nat.add_zero] at e0)
            exact e0.trans (ld_72_3_70 _)
        have ex19_1_24 : partOf T.T 24 (encs c92 x18.Cons) (v13.toNat * 2 + 1) = some (.ssl (encs c26 x19.Fields) x19.Fields.length false) := by
            have e0 := part_elem0 (e := c92) (z := 2) (T := T.T) (ty := 24) T.t24 (by decide) (by decide) hx19 1 (by decide)
            (try simp only [Nat.mul_one, Nat.add_zero] at e0)
            exact e0.trans (ld_92_1_24 _)
        refine evY_sound (f := 20) ?_; simp [-splice, f1, f2, f5, f6, f53, b_b1, ld_36_0_22, i0x18, i1x18, pd70, ex18_3_70, i0x19, i1x19, pd9, ex19_0_9, pd24, ex19_1_24]
        refine Stk.gen (fun t H n => t 1 = .sc (.int .i64 v12) ∧ t 2 = .own b1 0 ∧ t 5 = .sc (.int .i64 v6) ∧ t 6 = .sc (.int .i64 v13) ∧ t 65 = .sc (.string x19.Name) ∧ t 75 = .ssl (encs c26 x19.Fields) x19.Fields.length false ∧ H b1 = some (.cells (c36 a0) 36) ∧ b1 < n ∧ n0 ≤ n) (by and_intros <;> first | assumption | simp [-splice, f1, f2, f5, f6, f53, b_b1, ld_36_0_22, i0x18, i1x18, pd70, ex18_3_70, i0x19, i1x19, pd9, ex19_0_9, pd24, ex19_1_24]) ?_
        clear f1 f2 f5 f6 f53 b_b1 l_b1 ln0
        rintro t H n ⟨f1, f2, f5, f6, f65, f75, b_b1, l_b1, ln0⟩
        refine Stk.ovD rfl (by simp [f1, f2, f5, f6, f65, f75]) rfl (vop_build T.t26 rfl rfl (cs := c26 (api_Type.mk 0 ⟨#[]⟩ [])) (cs' := c26 (api_Type.mk 0 x19.Name x19.Fields)) rfl (.cons f65 rfl rfl rfl rfl (rfl) (by rw [len26]; decide) (st_26_1_9 _ _) (.cons f75 rfl rfl rfl rfl (rfl) (by rw [len26]; decide) (st_26_2_24 _ _) (.nil)))) (by simp [f1, f2, f5, f6, f65, f75]) rfl (fun t' ht' => ?_)
        refine Stk.gen (fun t H n => t 1 = .sc (.int .i64 v12) ∧ t 2 = .own b1 0 ∧ t 5 = .sc (.int .i64 v6) ∧ t 6 = .sc (.int .i64 v13) ∧ t 76 = .agg (c26 (api_Type.mk 0 x19.Name x19.Fields)) ∧ H b1 = some (.cells (c36 a0) 36) ∧ b1 < n ∧ n0 ≤ n) ⟨by simp [ht', f1], by simp [ht', f2], by simp [ht', f5], by simp [ht', f6], by simp [ht'], b_b1, l_b1, ln0⟩ ?_
        clear f1 f2 f5 f6 f65 f75 b_b1 l_b1 ln0 ht' t'
        rintro t H n ⟨f1, f2, f5, f6, f76, b_b1, l_b1, ln0⟩
        obtain ⟨x20, hx20, h⟩ := bnd h
        refine evY_sound (f := 1) ?_; simp [-splice, f1, f2, f5, f6, f76, b_b1]
        refine Stk.cvD (g := 10) (args := [.agg (c26 (api_Type.mk 0 x19.Name x19.Fields)), .sc (.int .i64 v12)]) (args' := [.agg (c26 (api_Type.mk 0 x19.Name x19.Fields)), .sc (.int .i64 v12)]) (v := .sc (.int .i64 x20)) [] (ok_R04_LightType F _ _ _ hx20) rfl (by simp) rfl (by simp [-splice, f1, f2, f5, f6, f76, b_b1]) rfl rfl (by simp [-splice, f1, f2, f5, f6, f76, b_b1]) (.cons (.free (fr26 _)) (.cons (.free (rfl)) (.nil))) (.inl ⟨rfl, rfl⟩) (fun t' ht' => ?_)
        subst ht'
        refine evY_sound (f := 8) ?_; simp [-splice, f1, f2, f5, f6, f76, b_b1]
        exact Stk.ln μ (Nat.lt_succ_self _) (hJ4 _ _ _ _ ⟨x20, (IntKind.i64.wrap (v13 + 1)), h, by and_intros <;> first | assumption | simp [-splice, f1, f2, f5, f6, f76, b_b1]⟩)
       ·have h := cF hb17 h
        refine Stk.ex rfl ?_
        exact Stk.ln 0 (by decide) (hJ3 _ _ _ ⟨v12, h, by and_intros <;> first | assumption | simp [-splice, f1, f2, f5, f6, b_b1, ld_36_0_22, i0x16, i1x16, pd70, ex16_3_70]⟩)
     clear h f1 f2 f5 b_b1 l_b1
     rintro t H n ⟨v11, h, f1, f2, f5, b_b1, l_b1⟩
     subst hK3
     refine evY_sound (f := 6) ?_; simp [-splice, f1, f2, f5, b_b1]
     exact Stk.ln μ (Nat.lt_succ_self _) (hJ2 _ _ _ _ ⟨v11, (IntKind.i64.wrap (v6 + 1)), h, by and_intros <;> first | assumption | simp [-splice, f1, f2, f5, b_b1]⟩)
    ·have h := cF hb9 h
     refine Stk.ex rfl ?_
     exact Stk.ln 0 (by decide) (hJ1 _ _ _ ⟨v5, h, by and_intros <;> first | assumption | simp [-splice, f1, f2, f5, b_b1, ld_36_0_22]⟩)
  clear h f1 f2 b_b1 l_b1 ln0
  rintro t H n ⟨v4, h, f1, f2, b_b1, l_b1⟩
  subst hK1
  refine evY_sound (f := 5) ?_; simp [-splice, f1, f2, b_b1]
  obtain ⟨K5, hK5, h⟩ := jnd h
  refine Stk.jn (fun t H n => ∃ v21 : Int, K5 v21 = some r ∧ t 1 = .sc (.int .i64 v21) ∧ t 2 = .own b1 0 ∧ H b1 = some (.cells (c36 a0) 36) ∧ b1 < n) trivial (fun J5 hJ5 => ?_) ?_
  · skip
    refine evY_sound (f := 1) ?_; simp [-splice, f1, f2, b_b1]
    refine Stk.gen (fun t H n => t 1 = .sc (.int .i64 v4) ∧ t 2 = .own b1 0 ∧ t 7 = .sc (.int .i64 0) ∧ H b1 = some (.cells (c36 a0) 36) ∧ b1 < n) (by and_intros <;> first | assumption | simp [-splice, f1, f2, b_b1]) ?_
    clear f1 f2 b_b1 l_b1
    rintro t H n ⟨f1, f2, f7, b_b1, l_b1⟩
    refine Stk.lo (fun μ t H n => ∃ v22 : Int, ∃ v23 : Int, R04_LightProg_L2 F a0 K5 μ v22 v23 = some r ∧ t 1 = .sc (.int .i64 v22) ∧ t 2 = .own b1 0 ∧ t 7 = .sc (.int .i64 v23) ∧ H b1 = some (.cells (c36 a0) 36) ∧ b1 < n) F ⟨v4, 0, h, f1, f2, f7, b_b1, l_b1⟩ ?_
    clear h f1 f2 f7 b_b1 l_b1
    rintro J6 hJ6 μ t H n ⟨v22, v23, h, f1, f2, f7, b_b1, l_b1⟩
    cases μ with
    | zero => exact absurd h (by simp [R04_LightProg_L2])
    | succ μ =>
    rw [R04_LightProg_L2] at h
    refine evY_sound (f := 9) ?_; simp [-splice, f1, f2, f7, b_b1, ld_36_1_23]
    refine Stk.gd 3 84 87 (fun z => .sc (.bool (z && (decide (0 ≤ v22))))) (w := decide (v23 < (a0.Funs.length : Int))) (by simp [-splice, f1, f2, f7, b_b1, ld_36_1_23]) (by simp [-splice, f1, f2, f7, b_b1, ld_36_1_23]) (by simp [-splice, f1, f2, f7, b_b1, ld_36_1_23]) ?_; simp [-splice, f1, f2, f7, b_b1, ld_36_1_23]
    refine evY_sound (f := 1) ?_; simp [-splice, f1, f2, f7, b_b1, ld_36_1_23]
    refine Stk.cond ((decide (v23 < (a0.Funs.length : Int))) && (decide (0 ≤ v22))) (by simp [-splice, f1, f2, f7, b_b1, ld_36_1_23]) (fun hb26 => ?_) (fun hb26 => ?_)
    ·have h := cT hb26 h
     obtain ⟨x27, hx27, h⟩ := bnd h
     obtain ⟨i0x27, i1x27, i2x27, _⟩ := idx_ok hx27
     have ex27_0_77 : partOf T.T 77 (encs c77 a0.Funs) (v23.toNat * 15) = some (.agg (c77 x27)) := by
         have e0 := part_elem0 (e := c77) (z := 15) (T := T.T) (ty := 77) T.t77 (by decide) (by decide) hx27 0 (by decide)
         (try simp only [Nat.mul_one, Nat.add_zero] at e0)
         exact e0.trans (ld_77_0_77 _)
     refine evY_sound (f := 10) ?_; simp [-splice, f1, f2, f7, b_b1, ld_36_1_23, i0x27, i1x27, pd77, ex27_0_77]
     refine Stk.gen (fun t H n => t 1 = .sc (.int .i64 v22) ∧ t 2 = .own b1 0 ∧ t 7 = .sc (.int .i64 v23) ∧ t 94 = .agg (c77 x27) ∧ H b1 = some (.cells (c36 a0) 36) ∧ b1 < n) (by and_intros <;> first | assumption | simp [-splice, f1, f2, f7, b_b1, ld_36_1_23, i0x27, i1x27, pd77, ex27_0_77]) ?_
     clear f1 f2 f7 b_b1 l_b1
     rintro t H n ⟨f1, f2, f7, f94, b_b1, l_b1⟩
     refine Stk.oz T.t77 (cs := c77 (api_Fun.mk (api_Pos.mk 0 0) ⟨#[]⟩ [] (api_Type.mk 0 ⟨#[]⟩ []) (api_Expr.mk 0 (api_Pos.mk 0 0) 0 [] ⟨#[]⟩ [] []))) (by rfl) rfl (by simp [f1, f2, f7, f94]) rfl (fun t' ht' => ?_)
     refine Stk.gen (fun t H n => ∃ b28, t 1 = .sc (.int .i64 v22) ∧ t 2 = .own b1 0 ∧ t 7 = .sc (.int .i64 v23) ∧ t 8 = .own b28 0 ∧ t 94 = .agg (c77 x27) ∧ H b1 = some (.cells (c36 a0) 36) ∧ b1 < n ∧ H b28 = some (.cells (c77 (api_Fun.mk (api_Pos.mk 0 0) ⟨#[]⟩ [] (api_Type.mk 0 ⟨#[]⟩ []) (api_Expr.mk 0 (api_Pos.mk 0 0) 0 [] ⟨#[]⟩ [] []))) 77) ∧ b28 < n ∧ b1 ≠ b28) ⟨n, by simp [ht', f1], by simp [ht', f2], by simp [ht', f7], by simp [ht'], by simp [ht', f94], (upd_ne _ _ (Nat.ne_of_lt l_b1)).trans b_b1, Nat.lt_succ_of_lt l_b1, upd_same _ _ _, Nat.lt_succ_self _, Nat.ne_of_lt l_b1⟩ ?_
     clear f1 f2 f7 f94 b_b1 l_b1 ht' t'
     rintro t H n ⟨b28, f1, f2, f7, f8, f94, b_b1, l_b1, b_b28, l_b28, d_b1_b28⟩
     refine Stk.om (mop_store (z := 15) rfl f8 b_b28 f94 (len77 _) (by rw [len77]; decide) (ok77 _) (st_77_0_77 _ _)) (by simp [f1, f2, f7, f8, f94]) rfl (fun t' ht' => ?_)
     refine Stk.gen (fun t H n => t 1 = .sc (.int .i64 v22) ∧ t 2 = .own b1 0 ∧ t 7 = .sc (.int .i64 v23) ∧ t 8 = .own b28 0 ∧ H b1 = some (.cells (c36 a0) 36) ∧ b1 < n ∧ H b28 = some (.cells (c77 x27) 77) ∧ b28 < n ∧ b1 ≠ b28) ⟨by simp [ht', f1], by simp [ht', f2], by simp [ht', f7], by simp [ht', f8], (upd_ne _ _ d_b1_b28).trans b_b1, l_b1, upd_same _ _ _, l_b28, d_b1_b28⟩ ?_
     clear f1 f2 f7 f8 f94 b_b1 l_b1 b_b28 l_b28 d_b1_b28 ht' t'
     rintro t H n ⟨f1, f2, f7, f8, b_b1, l_b1, b_b28, l_b28, d_b1_b28⟩
     refine evY_sound (f := 2) ?_; simp [-splice, f1, f2, f7, f8, b_b1, b_b28]
     refine Stk.gen (fun t H n => t 1 = .sc (.int .i64 v22) ∧ t 2 = .own b1 0 ∧ t 7 = .sc (.int .i64 v23) ∧ t 8 = .own b28 0 ∧ H b1 = some (.cells (c36 a0) 36) ∧ b1 < n ∧ H b28 = some (.cells (c77 x27) 77) ∧ b28 < n ∧ b1 ≠ b28) (by and_intros <;> first | assumption | simp [-splice, f1, f2, f7, f8, b_b1, b_b28]) ?_
     clear f1 f2 f7 f8 b_b1 l_b1 b_b28 l_b28 d_b1_b28
     rintro t H n ⟨f1, f2, f7, f8, b_b1, l_b1, b_b28, l_b28, d_b1_b28⟩
     obtain ⟨n0, hn0⟩ : ∃ m, m = n := ⟨n, rfl⟩
     have ln0 : n0 ≤ n := Nat.le_of_eq hn0
     refine Stk.rgD [.rd [], .rd [b28], .rd [], .rd [b28], .rd [], .rd [], .rd [], .rd [b28], .rd [], .rd [], .rd [], .rd [], .rd [], .rd []] none (by kernel_rfl) (by rfl) rfl (by simp [below, hn0, l_b1, hn0, l_b28]) rfl ?_
     obtain ⟨x29, hx29, h⟩ := bnd h
     refine evY_sound (f := 11) ?_; simp [-splice, f1, f2, f7, f8, b_b1, b_b28, ld_77_7_33, ld_77_4_26, ld_77_2_9]
     refine Stk.cvD (g := 10) (args := [.agg (c26 x27.Result), .sc (.int .i64 (IntKind.i64.wrap ((IntKind.i64.wrap (v22 - 1)) - (if 1048576 < (x27.Name.size : Int) then 1048576 else (x27.Name.size : Int)))))]) (args' := [.agg (c26 x27.Result), .sc (.int .i64 (IntKind.i64.wrap ((IntKind.i64.wrap (v22 - 1)) - (if 1048576 < (x27.Name.size : Int) then 1048576 else (x27.Name.size : Int)))))]) (v := .sc (.int .i64 x29)) [] (ok_R04_LightType F _ _ _ hx29) rfl (by simp) rfl (by simp [-splice, f1, f2, f7, f8, b_b1, b_b28, ld_77_7_33, ld_77_4_26, ld_77_2_9]) rfl rfl (by simp [-splice, f1, f2, f7, f8, b_b1, b_b28, ld_77_7_33, ld_77_4_26, ld_77_2_9]) (.cons (.free (fr26 _)) (.cons (.free (rfl)) (.nil))) (.inl ⟨rfl, rfl⟩) (fun t' ht' => ?_)
     subst ht'
     obtain ⟨x30, hx30, h⟩ := bnd h
     refine Stk.cvD (g := 8) (args := [.agg (c33 x27.Body), .sc (.int .i64 x29)]) (args' := [.agg (c33 x27.Body), .sc (.int .i64 x29)]) (v := .sc (.int .i64 x30)) [] (ok_R04_Light F _ _ _ hx30) rfl (by simp) rfl (by simp [-splice, f1, f2, f7, f8, b_b1, b_b28, ld_77_7_33, ld_77_4_26, ld_77_2_9]) rfl rfl (by simp [-splice, f1, f2, f7, f8, b_b1, b_b28, ld_77_7_33, ld_77_4_26, ld_77_2_9]) (.cons (.free (fr33 _)) (.cons (.free (rfl)) (.nil))) (.inl ⟨rfl, rfl⟩) (fun t' ht' => ?_)
     subst ht'
     refine evY_sound (f := 6) ?_; simp [-splice, f1, f2, f7, f8, b_b1, b_b28, ld_77_7_33, ld_77_4_26, ld_77_2_9]
     obtain ⟨K7, hK7, h⟩ := jnd h
     refine Stk.jn (fun t H n => ∃ v31 : Int, K7 v31 = some r ∧ t 1 = .sc (.int .i64 v31) ∧ t 2 = .own b1 0 ∧ t 7 = .sc (.int .i64 v23) ∧ H b1 = some (.cells (c36 a0) 36) ∧ b1 < n) trivial (fun J7 hJ7 => ?_) ?_
     · skip
       refine evY_sound (f := 1) ?_; simp [-splice, f1, f2, f7, f8, b_b1, b_b28, ld_77_7_33, ld_77_4_26, ld_77_2_9]
       refine Stk.gen (fun t H n => t 1 = .sc (.int .i64 x30) ∧ t 2 = .own b1 0 ∧ t 7 = .sc (.int .i64 v23) ∧ t 8 = .own b28 0 ∧ t 9 = .sc (.int .i64 0) ∧ H b1 = some (.cells (c36 a0) 36) ∧ b1 < n ∧ H b28 = some (.cells (c77 x27) 77) ∧ b28 < n ∧ b1 ≠ b28 ∧ n0 ≤ n) (by and_intros <;> first | assumption | simp [-splice, f1, f2, f7, f8, b_b1, b_b28, ld_77_7_33, ld_77_4_26, ld_77_2_9]) ?_
       clear f1 f2 f7 f8 b_b1 l_b1 b_b28 l_b28 d_b1_b28 ln0
       rintro t H n ⟨f1, f2, f7, f8, f9, b_b1, l_b1, b_b28, l_b28, d_b1_b28, ln0⟩
       refine Stk.lo (fun μ t H n => ∃ v32 : Int, ∃ v33 : Int, R04_LightProg_L3 F x27 K7 μ v32 v33 = some r ∧ t 1 = .sc (.int .i64 v32) ∧ t 2 = .own b1 0 ∧ t 7 = .sc (.int .i64 v23) ∧ t 8 = .own b28 0 ∧ t 9 = .sc (.int .i64 v33) ∧ H b1 = some (.cells (c36 a0) 36) ∧ b1 < n ∧ H b28 = some (.cells (c77 x27) 77) ∧ b28 < n ∧ b1 ≠ b28) F ⟨x30, 0, h, f1, f2, f7, f8, f9, b_b1, l_b1, b_b28, l_b28, d_b1_b28⟩ ?_
       clear h f1 f2 f7 f8 f9 b_b1 l_b1 b_b28 l_b28 d_b1_b28 ln0
       rintro J8 hJ8 μ t H n ⟨v32, v33, h, f1, f2, f7, f8, f9, b_b1, l_b1, b_b28, l_b28, d_b1_b28⟩
       cases μ with
       | zero => exact absurd h (by simp [R04_LightProg_L3])
       | succ μ =>
       rw [R04_LightProg_L3] at h
       refine evY_sound (f := 9) ?_; simp [-splice, f1, f2, f7, f8, f9, b_b1, b_b28, ld_77_3_75]
       refine Stk.gd 3 113 116 (fun z => .sc (.bool (z && (decide (0 ≤ v32))))) (w := decide (v33 < (x27.Params.length : Int))) (by simp [-splice, f1, f2, f7, f8, f9, b_b1, b_b28, ld_77_3_75]) (by simp [-splice, f1, f2, f7, f8, f9, b_b1, b_b28, ld_77_3_75]) (by simp [-splice, f1, f2, f7, f8, f9, b_b1, b_b28, ld_77_3_75]) ?_; simp [-splice, f1, f2, f7, f8, f9, b_b1, b_b28, ld_77_3_75]
       refine evY_sound (f := 1) ?_; simp [-splice, f1, f2, f7, f8, f9, b_b1, b_b28, ld_77_3_75]
       refine Stk.cond ((decide (v33 < (x27.Params.length : Int))) && (decide (0 ≤ v32))) (by simp [-splice, f1, f2, f7, f8, f9, b_b1, b_b28, ld_77_3_75]) (fun hb36 => ?_) (fun hb36 => ?_)
       ·have h := cT hb36 h
        refine evY_sound (f := 3) ?_; simp [-splice, f1, f2, f7, f8, f9, b_b1, b_b28, ld_77_3_75]
        refine Stk.gen (fun t H n => t 1 = .sc (.int .i64 v32) ∧ t 2 = .own b1 0 ∧ t 7 = .sc (.int .i64 v23) ∧ t 8 = .own b28 0 ∧ t 9 = .sc (.int .i64 v33) ∧ t 116 = .sc (.bool ((decide (v33 < (x27.Params.length : Int))) && (decide (0 ≤ v32)))) ∧ H b1 = some (.cells (c36 a0) 36) ∧ b1 < n ∧ H b28 = some (.cells (c77 x27) 77) ∧ b28 < n ∧ b1 ≠ b28) (by and_intros <;> first | assumption | simp [-splice, f1, f2, f7, f8, f9, b_b1, b_b28, ld_77_3_75]) ?_
        clear f1 f2 f7 f8 f9 b_b1 l_b1 b_b28 l_b28 d_b1_b28
        rintro t H n ⟨f1, f2, f7, f8, f9, f116, b_b1, l_b1, b_b28, l_b28, d_b1_b28⟩
        obtain ⟨n0, hn0⟩ : ∃ m, m = n := ⟨n, rfl⟩
        have ln0 : n0 ≤ n := Nat.le_of_eq hn0
        refine Stk.rgD [.rd [], .rd [b28], .rd [], .rd [], .rd [], .rd [], .rd [], .rd [], .rd [b28], .rd [], .rd [], .rd [], .rd [], .rd [], .rd [], .rd [], .rd [], .rd []] none (by kernel_rfl) (by rfl) rfl (by simp [below, hn0, l_b1, hn0, l_b28]) rfl ?_
        obtain ⟨x37, hx37, h⟩ := bnd h
        obtain ⟨i0x37, i1x37, i2x37, _⟩ := idx_ok hx37
        have ex37_1_26 : partOf T.T 26 (encs c81 x27.Params) (v33.toNat * 4 + 1) = some (.agg (c26 x37.Type_)) := by
            have e0 := part_elem0 (e := c81) (z := 4) (T := T.T) (ty := 26) T.t26 (by decide) (by decide) hx37 1 (by decide)
            (try simp only [Nat.mul_one, Nat.add_zero] at e0)
            exact e0.trans (ld_81_1_26 _)
        have ex37_0_9 : partOf T.T 9 (encs c81 x27.Params) (v33.toNat * 4) = some (.sc (.string x37.Name)) := by
            have e0 := part_elem0 (e := c81) (z := 4) (T := T.T) (ty := 9) T.t9 (by decide) (by decide) hx37 0 (by decide)
            (try simp only [Nat.mul_one, Nat.add_zero] at e0)
            exact e0.trans (ld_81_0_9 _)
        obtain ⟨x38, hx38, h⟩ := bnd h
        refine evY_sound (f := 16) ?_; simp [-splice, f1, f2, f7, f8, f9, f116, b_b1, b_b28, ld_77_3_75, i0x37, i1x37, pd26, ex37_1_26, pd9, ex37_0_9]
        refine Stk.cvD (g := 10) (args := [.agg (c26 x37.Type_), .sc (.int .i64 (IntKind.i64.wrap (v32 - (if 1048576 < (x37.Name.size : Int) then 1048576 else (x37.Name.size : Int)))))]) (args' := [.agg (c26 x37.Type_), .sc (.int .i64 (IntKind.i64.wrap (v32 - (if 1048576 < (x37.Name.size : Int) then 1048576 else (x37.Name.size : Int)))))]) (v := .sc (.int .i64 x38)) [] (ok_R04_LightType F _ _ _ hx38) rfl (by simp) rfl (by simp [-splice, f1, f2, f7, f8, f9, f116, b_b1, b_b28, ld_77_3_75, i0x37, i1x37, pd26, ex37_1_26, pd9, ex37_0_9]) rfl rfl (by simp [-splice, f1, f2, f7, f8, f9, f116, b_b1, b_b28, ld_77_3_75, i0x37, i1x37, pd26, ex37_1_26, pd9, ex37_0_9]) (.cons (.free (fr26 _)) (.cons (.free (rfl)) (.nil))) (.inl ⟨rfl, rfl⟩) (fun t' ht' => ?_)
        subst ht'
        refine evY_sound (f := 8) ?_; simp [-splice, f1, f2, f7, f8, f9, f116, b_b1, b_b28, ld_77_3_75, i0x37, i1x37, pd26, ex37_1_26, pd9, ex37_0_9]
        exact Stk.ln μ (Nat.lt_succ_self _) (hJ8 _ _ _ _ ⟨x38, (IntKind.i64.wrap (v33 + 1)), h, by and_intros <;> first | assumption | simp [-splice, f1, f2, f7, f8, f9, f116, b_b1, b_b28, ld_77_3_75, i0x37, i1x37, pd26, ex37_1_26, pd9, ex37_0_9]⟩)
       ·have h := cF hb36 h
        refine Stk.ex rfl ?_
        exact Stk.ln 0 (by decide) (hJ7 _ _ _ ⟨v32, h, by and_intros <;> first | assumption | simp [-splice, f1, f2, f7, f8, f9, b_b1, b_b28, ld_77_3_75]⟩)
     clear h f1 f2 f7 f8 b_b1 l_b1 b_b28 l_b28 d_b1_b28 ln0
     rintro t H n ⟨v31, h, f1, f2, f7, b_b1, l_b1⟩
     subst hK7
     refine evY_sound (f := 6) ?_; simp [-splice, f1, f2, f7, b_b1]
     exact Stk.ln μ (Nat.lt_succ_self _) (hJ6 _ _ _ _ ⟨v31, (IntKind.i64.wrap (v23 + 1)), h, by and_intros <;> first | assumption | simp [-splice, f1, f2, f7, b_b1]⟩)
    ·have h := cF hb26 h
     refine Stk.ex rfl ?_
     exact Stk.ln 0 (by decide) (hJ5 _ _ _ ⟨v22, h, by and_intros <;> first | assumption | simp [-splice, f1, f2, f7, b_b1, ld_36_1_23]⟩)
  clear h f1 f2 b_b1 l_b1
  rintro t H n ⟨v21, h, f1, f2, b_b1, l_b1⟩
  subst hK5
  refine evY_sound (f := 6) ?_; simp [-splice, f1, f2, b_b1]
  refine Stk.gen (fun t H n => t 1 = .sc (.int .i64 v21) ∧ t 2 = .own b1 0 ∧ t 10 = .sc (.int .i64 0) ∧ H b1 = some (.cells (c36 a0) 36) ∧ b1 < n) (by and_intros <;> first | assumption | simp [-splice, f1, f2, b_b1]) ?_
  clear f1 f2 b_b1 l_b1
  rintro t H n ⟨f1, f2, f10, b_b1, l_b1⟩
  refine Stk.lo (fun μ t H n => ∃ v39 : Int, ∃ v40 : Int, R04_LightProg_L4 F a0 μ v39 v40 = some r ∧ t 1 = .sc (.int .i64 v39) ∧ t 2 = .own b1 0 ∧ t 10 = .sc (.int .i64 v40) ∧ H b1 = some (.cells (c36 a0) 36) ∧ b1 < n) F ⟨v21, 0, h, f1, f2, f10, b_b1, l_b1⟩ ?_
  clear h f1 f2 f10 b_b1 l_b1
  rintro J9 hJ9 μ t H n ⟨v39, v40, h, f1, f2, f10, b_b1, l_b1⟩
  cases μ with
  | zero => exact absurd h (by simp [R04_LightProg_L4])
  | succ μ =>
  rw [R04_LightProg_L4] at h
  refine evY_sound (f := 9) ?_; simp [-splice, f1, f2, f10, b_b1, ld_36_16_34]
  refine Stk.gd 3 141 144 (fun z => .sc (.bool (z && (decide (0 ≤ v39))))) (w := decide (v40 < (a0.Hands.length : Int))) (by simp [-splice, f1, f2, f10, b_b1, ld_36_16_34]) (by simp [-splice, f1, f2, f10, b_b1, ld_36_16_34]) (by simp [-splice, f1, f2, f10, b_b1, ld_36_16_34]) ?_; simp [-splice, f1, f2, f10, b_b1, ld_36_16_34]
  refine evY_sound (f := 1) ?_; simp [-splice, f1, f2, f10, b_b1, ld_36_16_34]
  refine Stk.cond ((decide (v40 < (a0.Hands.length : Int))) && (decide (0 ≤ v39))) (by simp [-splice, f1, f2, f10, b_b1, ld_36_16_34]) (fun hb43 => ?_) (fun hb43 => ?_)
  ·have h := cT hb43 h
   obtain ⟨x44, hx44, h⟩ := bnd h
   obtain ⟨i0x44, i1x44, i2x44, _⟩ := idx_ok hx44
   have ex44_0_83 : partOf T.T 83 (encs c83 a0.Hands) (v40.toNat * 16) = some (.agg (c83 x44)) := by
       have e0 := part_elem0 (e := c83) (z := 16) (T := T.T) (ty := 83) T.t83 (by decide) (by decide) hx44 0 (by decide)
       (try simp only [Nat.mul_one, Nat.add_zero] at e0)
       exact e0.trans (ld_83_0_83 _)
   refine evY_sound (f := 10) ?_; simp [-splice, f1, f2, f10, b_b1, ld_36_16_34, i0x44, i1x44, pd83, ex44_0_83]
   refine Stk.gen (fun t H n => t 1 = .sc (.int .i64 v39) ∧ t 2 = .own b1 0 ∧ t 10 = .sc (.int .i64 v40) ∧ t 151 = .agg (c83 x44) ∧ H b1 = some (.cells (c36 a0) 36) ∧ b1 < n) (by and_intros <;> first | assumption | simp [-splice, f1, f2, f10, b_b1, ld_36_16_34, i0x44, i1x44, pd83, ex44_0_83]) ?_
   clear f1 f2 f10 b_b1 l_b1
   rintro t H n ⟨f1, f2, f10, f151, b_b1, l_b1⟩
   refine Stk.oz T.t83 (cs := c83 (api_Hand.mk (api_Pos.mk 0 0) ⟨#[]⟩ (api_Param.mk ⟨#[]⟩ (api_Type.mk 0 ⟨#[]⟩ [])) 0 (api_Expr.mk 0 (api_Pos.mk 0 0) 0 [] ⟨#[]⟩ [] []))) (by rfl) rfl (by simp [f1, f2, f10, f151]) rfl (fun t' ht' => ?_)
   refine Stk.gen (fun t H n => ∃ b45, t 1 = .sc (.int .i64 v39) ∧ t 2 = .own b1 0 ∧ t 10 = .sc (.int .i64 v40) ∧ t 11 = .own b45 0 ∧ t 151 = .agg (c83 x44) ∧ H b1 = some (.cells (c36 a0) 36) ∧ b1 < n ∧ H b45 = some (.cells (c83 (api_Hand.mk (api_Pos.mk 0 0) ⟨#[]⟩ (api_Param.mk ⟨#[]⟩ (api_Type.mk 0 ⟨#[]⟩ [])) 0 (api_Expr.mk 0 (api_Pos.mk 0 0) 0 [] ⟨#[]⟩ [] []))) 83) ∧ b45 < n ∧ b1 ≠ b45) ⟨n, by simp [ht', f1], by simp [ht', f2], by simp [ht', f10], by simp [ht'], by simp [ht', f151], (upd_ne _ _ (Nat.ne_of_lt l_b1)).trans b_b1, Nat.lt_succ_of_lt l_b1, upd_same _ _ _, Nat.lt_succ_self _, Nat.ne_of_lt l_b1⟩ ?_
   clear f1 f2 f10 f151 b_b1 l_b1 ht' t'
   rintro t H n ⟨b45, f1, f2, f10, f11, f151, b_b1, l_b1, b_b45, l_b45, d_b1_b45⟩
   refine Stk.om (mop_store (z := 16) rfl f11 b_b45 f151 (len83 _) (by rw [len83]; decide) (ok83 _) (st_83_0_83 _ _)) (by simp [f1, f2, f10, f11, f151]) rfl (fun t' ht' => ?_)
   refine Stk.gen (fun t H n => t 1 = .sc (.int .i64 v39) ∧ t 2 = .own b1 0 ∧ t 10 = .sc (.int .i64 v40) ∧ t 11 = .own b45 0 ∧ H b1 = some (.cells (c36 a0) 36) ∧ b1 < n ∧ H b45 = some (.cells (c83 x44) 83) ∧ b45 < n ∧ b1 ≠ b45) ⟨by simp [ht', f1], by simp [ht', f2], by simp [ht', f10], by simp [ht', f11], (upd_ne _ _ d_b1_b45).trans b_b1, l_b1, upd_same _ _ _, l_b45, d_b1_b45⟩ ?_
   clear f1 f2 f10 f11 f151 b_b1 l_b1 b_b45 l_b45 d_b1_b45 ht' t'
   rintro t H n ⟨f1, f2, f10, f11, b_b1, l_b1, b_b45, l_b45, d_b1_b45⟩
   refine evY_sound (f := 1) ?_; simp [-splice, f1, f2, f10, f11, b_b1, b_b45]
   refine Stk.gen (fun t H n => t 1 = .sc (.int .i64 v39) ∧ t 2 = .own b1 0 ∧ t 10 = .sc (.int .i64 v40) ∧ t 11 = .own b45 0 ∧ H b1 = some (.cells (c36 a0) 36) ∧ b1 < n ∧ H b45 = some (.cells (c83 x44) 83) ∧ b45 < n ∧ b1 ≠ b45) (by and_intros <;> first | assumption | simp [-splice, f1, f2, f10, f11, b_b1, b_b45]) ?_
   clear f1 f2 f10 f11 b_b1 l_b1 b_b45 l_b45 d_b1_b45
   rintro t H n ⟨f1, f2, f10, f11, b_b1, l_b1, b_b45, l_b45, d_b1_b45⟩
   obtain ⟨n0, hn0⟩ : ∃ m, m = n := ⟨n, rfl⟩
   have ln0 : n0 ≤ n := Nat.le_of_eq hn0
   refine Stk.rgD [.rd [], .rd [b45], .rd [], .rd [], .rd [b45], .rd [], .rd [], .rd [], .rd [b45], .rd [], .rd [], .rd [], .rd [], .rd [], .rd [b45], .rd [], .rd [], .rd [], .rd [], .rd [], .rd []] none (by kernel_rfl) (by rfl) rfl (by simp [below, hn0, l_b1, hn0, l_b45]) rfl ?_
   obtain ⟨x46, hx46, h⟩ := bnd h
   refine evY_sound (f := 18) ?_; simp [-splice, f1, f2, f10, f11, b_b1, b_b45, ld_83_8_33, ld_83_4_26, ld_83_2_9, ld_83_3_9]
   refine Stk.cvD (g := 10) (args := [.agg (c26 x44.Param.Type_), .sc (.int .i64 (IntKind.i64.wrap ((IntKind.i64.wrap ((IntKind.i64.wrap (v39 - 1)) - (if 1048576 < (x44.Name.size : Int) then 1048576 else (x44.Name.size : Int)))) - (if 1048576 < (x44.Param.Name.size : Int) then 1048576 else (x44.Param.Name.size : Int)))))]) (args' := [.agg (c26 x44.Param.Type_), .sc (.int .i64 (IntKind.i64.wrap ((IntKind.i64.wrap ((IntKind.i64.wrap (v39 - 1)) - (if 1048576 < (x44.Name.size : Int) then 1048576 else (x44.Name.size : Int)))) - (if 1048576 < (x44.Param.Name.size : Int) then 1048576 else (x44.Param.Name.size : Int)))))]) (v := .sc (.int .i64 x46)) [] (ok_R04_LightType F _ _ _ hx46) rfl (by simp) rfl (by simp [-splice, f1, f2, f10, f11, b_b1, b_b45, ld_83_8_33, ld_83_4_26, ld_83_2_9, ld_83_3_9]) rfl rfl (by simp [-splice, f1, f2, f10, f11, b_b1, b_b45, ld_83_8_33, ld_83_4_26, ld_83_2_9, ld_83_3_9]) (.cons (.free (fr26 _)) (.cons (.free (rfl)) (.nil))) (.inl ⟨rfl, rfl⟩) (fun t' ht' => ?_)
   subst ht'
   obtain ⟨x47, hx47, h⟩ := bnd h
   refine Stk.cvD (g := 8) (args := [.agg (c33 x44.Body), .sc (.int .i64 x46)]) (args' := [.agg (c33 x44.Body), .sc (.int .i64 x46)]) (v := .sc (.int .i64 x47)) [] (ok_R04_Light F _ _ _ hx47) rfl (by simp) rfl (by simp [-splice, f1, f2, f10, f11, b_b1, b_b45, ld_83_8_33, ld_83_4_26, ld_83_2_9, ld_83_3_9]) rfl rfl (by simp [-splice, f1, f2, f10, f11, b_b1, b_b45, ld_83_8_33, ld_83_4_26, ld_83_2_9, ld_83_3_9]) (.cons (.free (fr33 _)) (.cons (.free (rfl)) (.nil))) (.inl ⟨rfl, rfl⟩) (fun t' ht' => ?_)
   subst ht'
   refine evY_sound (f := 8) ?_; simp [-splice, f1, f2, f10, f11, b_b1, b_b45, ld_83_8_33, ld_83_4_26, ld_83_2_9, ld_83_3_9]
   exact Stk.ln μ (Nat.lt_succ_self _) (hJ9 _ _ _ _ ⟨x47, (IntKind.i64.wrap (v40 + 1)), h, by and_intros <;> first | assumption | simp [-splice, f1, f2, f10, f11, b_b1, b_b45, ld_83_8_33, ld_83_4_26, ld_83_2_9, ld_83_3_9]⟩)
  ·have h := cF hb43 h
   refine Stk.ex rfl ?_
   refine evY_sound (f := 6) ?_; simp [-splice, f1, f2, f10, b_b1, ld_36_16_34]
   have hq := Option.some.inj h; subst hq
   exact (hr _ _ _ (.sc (.int .i64 v39)) ([]) (by simp [-splice, f1, f2, f10, b_b1, ld_36_16_34]) (.inr (.inr (.free (rfl))))).1
theorem ok_L04_light (F : Nat) (a0 : api_Prog) (r : Bool) (h : L04_light F a0 = some r) : RunF Tryz.prog T.T 7 [.agg (c36 a0)] (.sc (.bool r)) := by
  rw [L04_light] at h
  refine RunF.z Tryz.func7 rfl rfl rfl rfl rfl (fun C hr => ?_)
  refine Stk.gen (fun t H n => t 0 = .agg (c36 a0)) (by simp) ?_
  rintro t H n f0
  refine evY_sound (f := 2) ?_; simp [-splice, f0]
  refine Stk.gen (fun t H n => t 0 = .agg (c36 a0)) (by simp [-splice, f0]) ?_
  clear f0
  rintro t H n f0
  refine Stk.om (mop_box T.t36 (cs := c36 a0) (by show partOk (t 0) = true; rw [f0]; rfl) (by show cellsOf (t 0) = _; rw [f0]; rfl)) (by simp [f0]) rfl (fun t' ht' => ?_)
  refine Stk.gen (fun t H n => ∃ b1, t 1 = .own b1 0 ∧ H b1 = some (.cells (c36 a0) 36) ∧ b1 < n) ⟨n, by simp [ht'], upd_same _ _ _, Nat.lt_succ_self _⟩ ?_
  clear f0 ht' t'
  rintro t H n ⟨b1, f1, b_b1, l_b1⟩
  obtain ⟨x2, hx2, h⟩ := bnd h
  refine evY_sound (f := 5) ?_; simp [-splice, f1, b_b1, ld_36_0_36]
  refine Stk.cv (g := 21) (args := [.agg (c36 a0), .sc (.int .i64 3000)]) (args' := [.agg (c36 a0), .sc (.int .i64 3000)]) (v := .sc (.int .i64 x2)) [] (ok_R04_LightProg F _ _ _ hx2) (by simp [-splice, f1, b_b1, ld_36_0_36]) rfl rfl (by simp [-splice, f1, b_b1, ld_36_0_36]) (.cons (.free (fr36 _)) (.cons (.free (rfl)) (.nil))) (.inl ⟨rfl, rfl⟩) (fun t' ht' => ?_)
  subst ht'
  refine evY_sound (f := 4) ?_; simp [-splice, f1, b_b1, ld_36_0_36]
  have hq := Option.some.inj h; subst hq
  exact (hr _ _ _ (.sc (.bool (decide (0 ≤ x2)))) ([]) (by simp [-splice, f1, b_b1, ld_36_0_36]) (.inr (.inr (.free (rfl))))).1
theorem ok_L04_awake (F : Nat) (r : Bool) (h : L04_awake F = some r) : RunF Tryz.prog T.T 11 [] (.sc (.bool r)) := by
  cases h
  exact RunF.x 4000 (by decide +kernel)
theorem ok_lex_Word (F : Nat) (a0 : ByteArray) (r : Bool) (h : lex_Word F a0 = some r) : RunF Tryz.prog T.T 196 [.sc (.string a0)] (.sc (.bool r)) := by
  rw [lex_Word] at h
  refine RunF.z Tryz.func196 rfl rfl rfl rfl rfl (fun C hr => ?_)
  refine Stk.gen (fun t H n => t 0 = .sc (.string a0)) (by simp) ?_
  rintro t H n f0
  refine evY_sound (f := 16) ?_; simp [-splice, f0]
  refine Stk.cond (a0.toList == (⟨#[99, 97, 112]⟩ : ByteArray).toList) (by simp [-splice, f0]) (fun hb1 => ?_) (fun hb1 => ?_)
  ·have h := cT hb1 h
   refine evY_sound (f := 1) ?_; simp [-splice, f0]
   refine Stk.cond true (Eq.trans (b := AV.sc (.bool ((a0.toList == (⟨#[99, 97, 112]⟩ : ByteArray).toList)))) (by simp [-splice, f0]) (by rw [hb1])) (fun hb => ?_) (fun hb => by cases hb)
   refine evY_sound (f := 5) ?_; simp [-splice, f0]
   have hq := Option.some.inj h; subst hq
   exact (hr _ _ _ (.sc (.bool true)) ([]) (by simp [-splice, f0]) (.inr (.inr (.free (rfl))))).1
  ·have h := cF hb1 h
   refine evY_sound (f := 5) ?_; simp [-splice, f0]
   refine Stk.cond (a0.toList == (⟨#[100, 111]⟩ : ByteArray).toList) (by simp [-splice, f0]) (fun hb2 => ?_) (fun hb2 => ?_)
   ·have h := cT hb2 h
    refine evY_sound (f := 1) ?_; simp [-splice, f0]
    refine Stk.cond true (Eq.trans (b := AV.sc (.bool ((a0.toList == (⟨#[100, 111]⟩ : ByteArray).toList)))) (by simp [-splice, f0]) (by rw [hb2])) (fun hb => ?_) (fun hb => by cases hb)
    refine evY_sound (f := 5) ?_; simp [-splice, f0]
    have hq := Option.some.inj h; subst hq
    exact (hr _ _ _ (.sc (.bool true)) ([]) (by simp [-splice, f0]) (.inr (.inr (.free (rfl))))).1
   ·have h := cF hb2 h
    refine evY_sound (f := 5) ?_; simp [-splice, f0]
    refine Stk.cond (a0.toList == (⟨#[101, 108, 115, 101]⟩ : ByteArray).toList) (by simp [-splice, f0]) (fun hb3 => ?_) (fun hb3 => ?_)
    ·have h := cT hb3 h
     refine evY_sound (f := 1) ?_; simp [-splice, f0]
     refine Stk.cond true (Eq.trans (b := AV.sc (.bool ((a0.toList == (⟨#[101, 108, 115, 101]⟩ : ByteArray).toList)))) (by simp [-splice, f0]) (by rw [hb3])) (fun hb => ?_) (fun hb => by cases hb)
     refine evY_sound (f := 5) ?_; simp [-splice, f0]
     have hq := Option.some.inj h; subst hq
     exact (hr _ _ _ (.sc (.bool true)) ([]) (by simp [-splice, f0]) (.inr (.inr (.free (rfl))))).1
    ·have h := cF hb3 h
     refine evY_sound (f := 5) ?_; simp [-splice, f0]
     refine Stk.cond (a0.toList == (⟨#[101, 110, 100]⟩ : ByteArray).toList) (by simp [-splice, f0]) (fun hb4 => ?_) (fun hb4 => ?_)
     ·have h := cT hb4 h
      refine evY_sound (f := 1) ?_; simp [-splice, f0]
      refine Stk.cond true (Eq.trans (b := AV.sc (.bool ((a0.toList == (⟨#[101, 110, 100]⟩ : ByteArray).toList)))) (by simp [-splice, f0]) (by rw [hb4])) (fun hb => ?_) (fun hb => by cases hb)
      refine evY_sound (f := 5) ?_; simp [-splice, f0]
      have hq := Option.some.inj h; subst hq
      exact (hr _ _ _ (.sc (.bool true)) ([]) (by simp [-splice, f0]) (.inr (.inr (.free (rfl))))).1
     ·have h := cF hb4 h
      refine evY_sound (f := 5) ?_; simp [-splice, f0]
      refine Stk.cond (a0.toList == (⟨#[102, 111, 114]⟩ : ByteArray).toList) (by simp [-splice, f0]) (fun hb5 => ?_) (fun hb5 => ?_)
      ·have h := cT hb5 h
       refine evY_sound (f := 1) ?_; simp [-splice, f0]
       refine Stk.cond true (Eq.trans (b := AV.sc (.bool ((a0.toList == (⟨#[102, 111, 114]⟩ : ByteArray).toList)))) (by simp [-splice, f0]) (by rw [hb5])) (fun hb => ?_) (fun hb => by cases hb)
       refine evY_sound (f := 5) ?_; simp [-splice, f0]
       have hq := Option.some.inj h; subst hq
       exact (hr _ _ _ (.sc (.bool true)) ([]) (by simp [-splice, f0]) (.inr (.inr (.free (rfl))))).1
      ·have h := cF hb5 h
       refine evY_sound (f := 5) ?_; simp [-splice, f0]
       refine Stk.cond (a0.toList == (⟨#[102, 117, 110]⟩ : ByteArray).toList) (by simp [-splice, f0]) (fun hb6 => ?_) (fun hb6 => ?_)
       ·have h := cT hb6 h
        refine evY_sound (f := 1) ?_; simp [-splice, f0]
        refine Stk.cond true (Eq.trans (b := AV.sc (.bool ((a0.toList == (⟨#[102, 117, 110]⟩ : ByteArray).toList)))) (by simp [-splice, f0]) (by rw [hb6])) (fun hb => ?_) (fun hb => by cases hb)
        refine evY_sound (f := 5) ?_; simp [-splice, f0]
        have hq := Option.some.inj h; subst hq
        exact (hr _ _ _ (.sc (.bool true)) ([]) (by simp [-splice, f0]) (.inr (.inr (.free (rfl))))).1
       ·have h := cF hb6 h
        refine evY_sound (f := 5) ?_; simp [-splice, f0]
        refine Stk.cond (a0.toList == (⟨#[105, 102]⟩ : ByteArray).toList) (by simp [-splice, f0]) (fun hb7 => ?_) (fun hb7 => ?_)
        ·have h := cT hb7 h
         refine evY_sound (f := 1) ?_; simp [-splice, f0]
         refine Stk.cond true (Eq.trans (b := AV.sc (.bool ((a0.toList == (⟨#[105, 102]⟩ : ByteArray).toList)))) (by simp [-splice, f0]) (by rw [hb7])) (fun hb => ?_) (fun hb => by cases hb)
         refine evY_sound (f := 5) ?_; simp [-splice, f0]
         have hq := Option.some.inj h; subst hq
         exact (hr _ _ _ (.sc (.bool true)) ([]) (by simp [-splice, f0]) (.inr (.inr (.free (rfl))))).1
        ·have h := cF hb7 h
         refine evY_sound (f := 5) ?_; simp [-splice, f0]
         refine Stk.cond (a0.toList == (⟨#[105, 110]⟩ : ByteArray).toList) (by simp [-splice, f0]) (fun hb8 => ?_) (fun hb8 => ?_)
         ·have h := cT hb8 h
          refine evY_sound (f := 1) ?_; simp [-splice, f0]
          refine Stk.cond true (Eq.trans (b := AV.sc (.bool ((a0.toList == (⟨#[105, 110]⟩ : ByteArray).toList)))) (by simp [-splice, f0]) (by rw [hb8])) (fun hb => ?_) (fun hb => by cases hb)
          refine evY_sound (f := 5) ?_; simp [-splice, f0]
          have hq := Option.some.inj h; subst hq
          exact (hr _ _ _ (.sc (.bool true)) ([]) (by simp [-splice, f0]) (.inr (.inr (.free (rfl))))).1
         ·have h := cF hb8 h
          refine evY_sound (f := 5) ?_; simp [-splice, f0]
          refine Stk.cond (a0.toList == (⟨#[108, 101, 116]⟩ : ByteArray).toList) (by simp [-splice, f0]) (fun hb9 => ?_) (fun hb9 => ?_)
          ·have h := cT hb9 h
           refine evY_sound (f := 1) ?_; simp [-splice, f0]
           refine Stk.cond true (Eq.trans (b := AV.sc (.bool ((a0.toList == (⟨#[108, 101, 116]⟩ : ByteArray).toList)))) (by simp [-splice, f0]) (by rw [hb9])) (fun hb => ?_) (fun hb => by cases hb)
           refine evY_sound (f := 5) ?_; simp [-splice, f0]
           have hq := Option.some.inj h; subst hq
           exact (hr _ _ _ (.sc (.bool true)) ([]) (by simp [-splice, f0]) (.inr (.inr (.free (rfl))))).1
          ·have h := cF hb9 h
           refine evY_sound (f := 5) ?_; simp [-splice, f0]
           refine Stk.cond (a0.toList == (⟨#[109, 97, 116, 99, 104]⟩ : ByteArray).toList) (by simp [-splice, f0]) (fun hb10 => ?_) (fun hb10 => ?_)
           ·have h := cT hb10 h
            refine evY_sound (f := 1) ?_; simp [-splice, f0]
            refine Stk.cond true (Eq.trans (b := AV.sc (.bool ((a0.toList == (⟨#[109, 97, 116, 99, 104]⟩ : ByteArray).toList)))) (by simp [-splice, f0]) (by rw [hb10])) (fun hb => ?_) (fun hb => by cases hb)
            refine evY_sound (f := 5) ?_; simp [-splice, f0]
            have hq := Option.some.inj h; subst hq
            exact (hr _ _ _ (.sc (.bool true)) ([]) (by simp [-splice, f0]) (.inr (.inr (.free (rfl))))).1
           ·have h := cF hb10 h
            refine evY_sound (f := 5) ?_; simp [-splice, f0]
            refine Stk.cond (a0.toList == (⟨#[111, 102]⟩ : ByteArray).toList) (by simp [-splice, f0]) (fun hb11 => ?_) (fun hb11 => ?_)
            ·have h := cT hb11 h
             refine evY_sound (f := 1) ?_; simp [-splice, f0]
             refine Stk.cond true (Eq.trans (b := AV.sc (.bool ((a0.toList == (⟨#[111, 102]⟩ : ByteArray).toList)))) (by simp [-splice, f0]) (by rw [hb11])) (fun hb => ?_) (fun hb => by cases hb)
             refine evY_sound (f := 5) ?_; simp [-splice, f0]
             have hq := Option.some.inj h; subst hq
             exact (hr _ _ _ (.sc (.bool true)) ([]) (by simp [-splice, f0]) (.inr (.inr (.free (rfl))))).1
            ·have h := cF hb11 h
             refine evY_sound (f := 5) ?_; simp [-splice, f0]
             refine Stk.cond (a0.toList == (⟨#[111, 110]⟩ : ByteArray).toList) (by simp [-splice, f0]) (fun hb12 => ?_) (fun hb12 => ?_)
             ·have h := cT hb12 h
              refine evY_sound (f := 1) ?_; simp [-splice, f0]
              refine Stk.cond true (Eq.trans (b := AV.sc (.bool ((a0.toList == (⟨#[111, 110]⟩ : ByteArray).toList)))) (by simp [-splice, f0]) (by rw [hb12])) (fun hb => ?_) (fun hb => by cases hb)
              refine evY_sound (f := 5) ?_; simp [-splice, f0]
              have hq := Option.some.inj h; subst hq
              exact (hr _ _ _ (.sc (.bool true)) ([]) (by simp [-splice, f0]) (.inr (.inr (.free (rfl))))).1
             ·have h := cF hb12 h
              refine evY_sound (f := 5) ?_; simp [-splice, f0]
              refine Stk.cond (a0.toList == (⟨#[113, 117, 101, 117, 101]⟩ : ByteArray).toList) (by simp [-splice, f0]) (fun hb13 => ?_) (fun hb13 => ?_)
              ·have h := cT hb13 h
               refine evY_sound (f := 1) ?_; simp [-splice, f0]
               refine Stk.cond true (Eq.trans (b := AV.sc (.bool ((a0.toList == (⟨#[113, 117, 101, 117, 101]⟩ : ByteArray).toList)))) (by simp [-splice, f0]) (by rw [hb13])) (fun hb => ?_) (fun hb => by cases hb)
               refine evY_sound (f := 5) ?_; simp [-splice, f0]
               have hq := Option.some.inj h; subst hq
               exact (hr _ _ _ (.sc (.bool true)) ([]) (by simp [-splice, f0]) (.inr (.inr (.free (rfl))))).1
              ·have h := cF hb13 h
               refine evY_sound (f := 5) ?_; simp [-splice, f0]
               refine Stk.cond (a0.toList == (⟨#[115, 116, 97, 116, 101]⟩ : ByteArray).toList) (by simp [-splice, f0]) (fun hb14 => ?_) (fun hb14 => ?_)
               ·have h := cT hb14 h
                refine evY_sound (f := 1) ?_; simp [-splice, f0]
                refine Stk.cond true (Eq.trans (b := AV.sc (.bool ((a0.toList == (⟨#[115, 116, 97, 116, 101]⟩ : ByteArray).toList)))) (by simp [-splice, f0]) (by rw [hb14])) (fun hb => ?_) (fun hb => by cases hb)
                refine evY_sound (f := 5) ?_; simp [-splice, f0]
                have hq := Option.some.inj h; subst hq
                exact (hr _ _ _ (.sc (.bool true)) ([]) (by simp [-splice, f0]) (.inr (.inr (.free (rfl))))).1
               ·have h := cF hb14 h
                refine evY_sound (f := 5) ?_; simp [-splice, f0]
                refine Stk.cond (a0.toList == (⟨#[116, 104, 101, 110]⟩ : ByteArray).toList) (by simp [-splice, f0]) (fun hb15 => ?_) (fun hb15 => ?_)
                ·have h := cT hb15 h
                 refine evY_sound (f := 1) ?_; simp [-splice, f0]
                 refine Stk.cond true (Eq.trans (b := AV.sc (.bool ((a0.toList == (⟨#[116, 104, 101, 110]⟩ : ByteArray).toList)))) (by simp [-splice, f0]) (by rw [hb15])) (fun hb => ?_) (fun hb => by cases hb)
                 refine evY_sound (f := 5) ?_; simp [-splice, f0]
                 have hq := Option.some.inj h; subst hq
                 exact (hr _ _ _ (.sc (.bool true)) ([]) (by simp [-splice, f0]) (.inr (.inr (.free (rfl))))).1
                ·have h := cF hb15 h
                 refine evY_sound (f := 5) ?_; simp [-splice, f0]
                 refine Stk.cond (a0.toList == (⟨#[116, 105, 109, 101, 114, 115]⟩ : ByteArray).toList) (by simp [-splice, f0]) (fun hb16 => ?_) (fun hb16 => ?_)
                 ·have h := cT hb16 h
                  refine evY_sound (f := 1) ?_; simp [-splice, f0]
                  refine Stk.cond true (Eq.trans (b := AV.sc (.bool ((a0.toList == (⟨#[116, 105, 109, 101, 114, 115]⟩ : ByteArray).toList)))) (by simp [-splice, f0]) (by rw [hb16])) (fun hb => ?_) (fun hb => by cases hb)
                  refine evY_sound (f := 5) ?_; simp [-splice, f0]
                  have hq := Option.some.inj h; subst hq
                  exact (hr _ _ _ (.sc (.bool true)) ([]) (by simp [-splice, f0]) (.inr (.inr (.free (rfl))))).1
                 ·have h := cF hb16 h
                  refine evY_sound (f := 5) ?_; simp [-splice, f0]
                  refine Stk.cond (a0.toList == (⟨#[116, 121, 112, 101]⟩ : ByteArray).toList) (by simp [-splice, f0]) (fun hb17 => ?_) (fun hb17 => ?_)
                  ·have h := cT hb17 h
                   refine evY_sound (f := 1) ?_; simp [-splice, f0]
                   refine Stk.cond true (Eq.trans (b := AV.sc (.bool ((a0.toList == (⟨#[116, 121, 112, 101]⟩ : ByteArray).toList)))) (by simp [-splice, f0]) (by rw [hb17])) (fun hb => ?_) (fun hb => by cases hb)
                   refine evY_sound (f := 5) ?_; simp [-splice, f0]
                   have hq := Option.some.inj h; subst hq
                   exact (hr _ _ _ (.sc (.bool true)) ([]) (by simp [-splice, f0]) (.inr (.inr (.free (rfl))))).1
                  ·have h := cF hb17 h
                   refine evY_sound (f := 4) ?_; simp [-splice, f0]
                   refine Stk.cond (a0.toList == (⟨#[119, 105, 116, 104]⟩ : ByteArray).toList) (by simp [-splice, f0]) (fun hb18 => ?_) (fun hb18 => ?_)
                   ·have h := cT hb18 h
                    refine evY_sound (f := 5) ?_; simp [-splice, f0]
                    have hq := Option.some.inj h; subst hq
                    exact (hr _ _ _ (.sc (.bool true)) ([]) (by simp [-splice, f0]) (.inr (.inr (.free (rfl))))).1
                   ·have h := cF hb18 h
                    refine evY_sound (f := 7) ?_; simp [-splice, f0]
                    have hq := Option.some.inj h; subst hq
                    exact (hr _ _ _ (.sc (.bool false)) ([]) (by simp [-splice, f0]) (.inr (.inr (.free (rfl))))).1
theorem ok_unicode_utf8_ValidString (F : Nat) (a0 : ByteArray) (r : Bool) (h : unicode_utf8_ValidString F a0 = some r) : RunF Tryz.prog T.T 197 [.sc (.string a0)] (.sc (.bool r)) := by
  unfold unicode_utf8_ValidString at h
  cases hd : decide (a0.size ≤ maxLen) with
  | true => rw [hd] at h; cases h; exact validString_run a0 (of_decide_eq_true hd)
  | false => rw [hd] at h; cases h
theorem ok_unicode_utf8_RuneCountInString (F : Nat) (a0 : ByteArray) (r : Int) (h : unicode_utf8_RuneCountInString F a0 = some r) : RunF Tryz.prog T.T 198 [.sc (.string a0)] (.sc (.int .i64 r)) := by
  rw [unicode_utf8_RuneCountInString] at h
  refine RunF.z Tryz.func198 rfl rfl rfl rfl rfl (fun C hr => ?_)
  refine Stk.gen (fun t H n => t 0 = .sc (.string a0)) (by simp) ?_
  rintro t H n f0
  refine evY_sound (f := 8) ?_; simp [-splice, f0]
  refine Stk.gen (fun t H n => t 2 = .sc (.int .i64 0) ∧ t 3 = .sc (.string a0)) (by and_intros <;> first | assumption | simp [-splice, f0]) ?_
  clear f0
  rintro t H n ⟨f2, f3⟩
  refine Stk.om (mop_range T.t9 rfl f3) (by simp [f2, f3]) rfl (fun t' ht' => ?_)
  refine Stk.gen (fun t H n => ∃ b1, t 2 = .sc (.int .i64 0) ∧ t 4 = .own b1 0 ∧ H b1 = some (.iter a0 0) ∧ b1 < n) ⟨n, by simp [ht', f2], by simp [ht'], upd_same _ _ _, Nat.lt_succ_self _⟩ ?_
  clear f2 f3 ht' t'
  rintro t H n ⟨b1, f2, f4, b_b1, l_b1⟩
  refine evY_sound (f := 2) ?_; simp [-splice, f2, f4, b_b1]
  refine Stk.gen (fun t H n => t 2 = .sc (.int .i64 0) ∧ t 4 = .own b1 0 ∧ H b1 = some (.iter a0 0) ∧ b1 < n) (by and_intros <;> first | assumption | simp [-splice, f2, f4, b_b1]) ?_
  clear f2 f4 b_b1 l_b1
  rintro t H n ⟨f2, f4, b_b1, l_b1⟩
  refine Stk.lo (fun μ t H n => ∃ v2 : Int, ∃ v3 : Nat, unicode_utf8_RuneCountInString_L0 F a0 μ v2 v3 = some r ∧ t 2 = .sc (.int .i64 v2) ∧ t 4 = .own b1 0 ∧ H b1 = some (.iter a0 v3) ∧ b1 < n) F ⟨0, 0, h, f2, f4, b_b1, l_b1⟩ ?_
  clear h f2 f4 b_b1 l_b1
  rintro J1 hJ1 μ t H n ⟨v2, v3, h, f2, f4, b_b1, l_b1⟩
  cases μ with
  | zero => exact absurd h (by simp [unicode_utf8_RuneCountInString_L0])
  | succ μ =>
  rw [unicode_utf8_RuneCountInString_L0] at h
  refine evY_sound (f := 2) ?_; simp [-splice, f2, f4, b_b1]
  refine Stk.gen (fun t H n => t 2 = .sc (.int .i64 v2) ∧ t 4 = .own b1 0 ∧ H b1 = some (.iter a0 v3) ∧ b1 < n) (by and_intros <;> first | assumption | simp [-splice, f2, f4, b_b1]) ?_
  clear f2 f4 b_b1 l_b1
  rintro t H n ⟨f2, f4, b_b1, l_b1⟩
  rcases Bool.eq_false_or_eq_true (decide (v3 < a0.size)) with hb6 | hb6
  · have h := cT hb6 h
    refine Stk.om (mop_nextT f4 b_b1 (of_decide_eq_true hb6)) (by simp [f2, f4]) rfl (fun t' ht' => ?_)
    refine Stk.gen (fun t H n => t 2 = .sc (.int .i64 v2) ∧ t 4 = .own b1 0 ∧ t 5 = .tup [.sc (.bool true), .sc (.int .i64 (v3 : Int)), .sc (.int .i32 ((Utf8.decode a0 v3).1 : Int))] ∧ H b1 = some (.iter a0 (v3 + (Utf8.decode a0 v3).2)) ∧ b1 < n) ⟨by simp [ht', f2], by simp [ht', f4], by simp [ht'], upd_same _ _ _, l_b1⟩ ?_
    clear f2 f4 b_b1 l_b1 ht' t'
    rintro t H n ⟨f2, f4, f5, b_b1, l_b1⟩
    refine evY_sound (f := 3) ?_; simp [-splice, f2, f4, f5, b_b1]
    refine Stk.cond true (by simp [-splice, f2, f4, f5, b_b1]) (fun hb => ?_) (fun hb => by cases hb)
    refine evY_sound (f := 8) ?_; simp [-splice, f2, f4, f5, b_b1]
    exact Stk.ln μ (Nat.lt_succ_self _) (hJ1 _ _ _ _ ⟨(IntKind.i64.wrap (v2 + 1)), (v3 + (Utf8.decode a0 v3).2), h, by and_intros <;> first | assumption | simp [-splice, f2, f4, f5, b_b1]⟩)
  · have h := cF hb6 h
    refine Stk.om (mop_nextF f4 b_b1 (of_decide_eq_false hb6)) (by simp [f2, f4]) rfl (fun t' ht' => ?_)
    refine Stk.gen (fun t H n => t 2 = .sc (.int .i64 v2) ∧ t 4 = .own b1 0 ∧ t 5 = .tup [.sc (.bool false)] ∧ H b1 = some (.iter a0 v3) ∧ b1 < n) ⟨by simp [ht', f2], by simp [ht', f4], by simp [ht'], b_b1, l_b1⟩ ?_
    clear f2 f4 b_b1 l_b1 ht' t'
    rintro t H n ⟨f2, f4, f5, b_b1, l_b1⟩
    refine evY_sound (f := 3) ?_; simp [-splice, f2, f4, f5, b_b1]
    refine Stk.cond false (by simp [-splice, f2, f4, f5, b_b1]) (fun hb => by cases hb) (fun hb => ?_)
    refine Stk.ex rfl ?_
    refine evY_sound (f := 6) ?_; simp [-splice, f2, f4, f5, b_b1]
    have hq := Option.some.inj h; subst hq
    exact (hr _ _ _ (.sc (.int .i64 v2)) ([]) (by simp [-splice, f2, f4, f5, b_b1]) (.inr (.inr (.free (rfl))))).1
theorem ok_unicode_utf8_ValidRune (F : Nat) (a0 : Int) (r : Bool) (h : unicode_utf8_ValidRune F a0 = some r) : RunF Tryz.prog T.T 209 [.sc (.int .i32 a0)] (.sc (.bool r)) := by
  rw [unicode_utf8_ValidRune] at h
  refine RunF.z Tryz.func209 rfl rfl rfl rfl rfl (fun C hr => ?_)
  refine Stk.gen (fun t H n => t 0 = .sc (.int .i32 a0)) (by simp) ?_
  rintro t H n f0
  refine evY_sound (f := 11) ?_; simp [-splice, f0]
  refine Stk.gd 3 6 9 (fun z => .sc (.bool (z && (decide (a0 < 55296))))) (w := decide (0 ≤ a0)) (by simp [-splice, f0]) (by simp [-splice, f0]) (by simp [-splice, f0]) ?_; simp [-splice, f0]
  refine evY_sound (f := 2) ?_; simp [-splice, f0]
  refine Stk.cond ((decide (0 ≤ a0)) && (decide (a0 < 55296))) (by simp [-splice, f0]) (fun hb1 => ?_) (fun hb1 => ?_)
  ·have h := cT hb1 h
   refine evY_sound (f := 5) ?_; simp [-splice, f0]
   have hq := Option.some.inj h; subst hq
   exact (hr _ _ _ (.sc (.bool true)) ([]) (by simp [-splice, f0]) (.inr (.inr (.free (rfl))))).1
  ·have h := cF hb1 h
   refine evY_sound (f := 5) ?_; simp [-splice, f0]
   refine Stk.gd 3 13 16 (fun z => .sc (.bool (z && (decide (a0 ≤ 1114111))))) (w := decide (57343 < a0)) (by simp [-splice, f0]) (by simp [-splice, f0]) (by simp [-splice, f0]) ?_; simp [-splice, f0]
   refine evY_sound (f := 2) ?_; simp [-splice, f0]
   refine Stk.cond ((decide (57343 < a0)) && (decide (a0 ≤ 1114111))) (by simp [-splice, f0]) (fun hb2 => ?_) (fun hb2 => ?_)
   ·have h := cT hb2 h
    refine evY_sound (f := 5) ?_; simp [-splice, f0]
    have hq := Option.some.inj h; subst hq
    exact (hr _ _ _ (.sc (.bool true)) ([]) (by simp [-splice, f0]) (.inr (.inr (.free (rfl))))).1
   ·have h := cF hb2 h
    refine evY_sound (f := 7) ?_; simp [-splice, f0]
    have hq := Option.some.inj h; subst hq
    exact (hr _ _ _ (.sc (.bool false)) ([]) (by simp [-splice, f0]) (.inr (.inr (.free (rfl))))).1
theorem ok_runes_Low (F : Nat) (a0 : Int) (r : Bool) (h : runes_Low F a0 = some r) : RunF Tryz.prog T.T 201 [.sc (.int .i32 a0)] (.sc (.bool r)) := by
  rw [runes_Low] at h
  refine RunF.z Tryz.func201 rfl rfl rfl rfl rfl (fun C hr => ?_)
  refine Stk.gen (fun t H n => t 0 = .sc (.int .i32 a0)) (by simp) ?_
  rintro t H n f0
  refine evY_sound (f := 9) ?_; simp [-splice, f0]
  refine Stk.gd 3 5 8 (fun z => .sc (.bool (z && (decide (a0 ≤ 122))))) (w := decide (97 ≤ a0)) (by simp [-splice, f0]) (by simp [-splice, f0]) (by simp [-splice, f0]) ?_; simp [-splice, f0]
  refine evY_sound (f := 1) ?_; simp [-splice, f0]
  refine Stk.gen (fun t H n => t 0 = .sc (.int .i32 a0) ∧ t 9 = .sc (.bool ((decide (97 ≤ a0)) && (decide (a0 ≤ 122))))) (by and_intros <;> first | assumption | simp [-splice, f0]) ?_
  clear f0
  rintro t H n ⟨f0, f9⟩
  obtain ⟨K1, hK1, h⟩ := jnd h
  refine Stk.jo 7 (fun t H n => ∃ v1 : Bool, K1 v1 = some r ∧ t 16 = .sc (.bool v1)) (fun J1 hJ1 => ?_) ?_
  · rcases Bool.eq_false_or_eq_true ((decide (97 ≤ a0)) && (decide (a0 ≤ 122))) with hb1 | hb1
    · rw [hb1] at f9
      replace h := cT hb1 h
      refine evY_sound (f := 8) ?_; simp [-splice, f0, f9]
      exact Stk.ln 0 (by decide) (hJ1 _ _ _ ⟨true, h, by simp [-splice, f0, f9]⟩)
    · rw [hb1] at f9
      replace h := cF hb1 h
      refine evY_sound (f := 3) ?_; simp [-splice, f0, f9]
      refine Stk.gen (fun t H n => t 0 = .sc (.int .i32 a0) ∧ t 9 = .sc (.bool false) ∧ t 12 = .sc (.bool (decide (128 ≤ a0)))) (by and_intros <;> first | assumption | simp [-splice, f0, f9]) ?_
      clear f0 f9
      rintro t H n ⟨f0, f9, f12⟩
      obtain ⟨K2, hK2, h⟩ := jnd h
      refine Stk.jo 3 (fun t H n => ∃ v2 : Bool, K2 v2 = some r ∧ t 9 = .sc (.bool false) ∧ t 15 = .sc (.bool v2)) (fun J2 hJ2 => ?_) ?_
      · rcases Bool.eq_false_or_eq_true (decide (128 ≤ a0)) with hb2 | hb2
        · rw [hb2] at f12
          replace h := cT hb2 h
          obtain ⟨x3, hx3, h⟩ := bnd h
          refine evY_sound (f := 1) ?_; simp [-splice, f0, f9, f12]
          refine Stk.cv (g := 209) (args := [.sc (.int .i32 a0)]) (args' := [.sc (.int .i32 a0)]) (v := .sc (.bool x3)) [] (ok_unicode_utf8_ValidRune F _ _ hx3) (by simp [-splice, f0, f9, f12]) rfl rfl (by simp [-splice, f0, f9, f12]) (.cons (.free (rfl)) (.nil)) (.inl ⟨rfl, rfl⟩) (fun t' ht' => ?_)
          subst ht'
          refine evY_sound (f := 2) ?_; simp [-splice, f0, f9, f12]
          exact Stk.ln 0 (by decide) (hJ2 _ _ _ ⟨x3, h, by and_intros <;> first | assumption | simp [-splice, f0, f9, f12]⟩)
        · rw [hb2] at f12
          replace h := cF hb2 h
          refine evY_sound (f := 4) ?_; simp [-splice, f0, f9, f12]
          exact Stk.ln 0 (by decide) (hJ2 _ _ _ ⟨false, h, by and_intros <;> first | assumption | simp [-splice, f0, f9, f12]⟩)
      clear h f0 f9 f12
      rintro t H n ⟨v2, h, f9, f15⟩
      subst hK2
      refine evY_sound (f := 2) ?_; simp [-splice, f9, f15]
      exact Stk.ln 0 (by decide) (hJ1 _ _ _ ⟨v2, h, by simp [-splice, f9, f15]⟩)
  clear h f0 f9
  rintro t H n ⟨v1, h, f16⟩
  subst hK1
  refine evY_sound (f := 3) ?_; simp [-splice, f16]
  have hq := Option.some.inj h; subst hq
  exact (hr _ _ _ (.sc (.bool v1)) ([]) (by simp [-splice, f16]) (.inr (.inr (.free (rfl))))).1
end Go.Proofs.YtappiofmkoelnaaGreatDoor.M
end
section
namespace Go.Proofs.YtappiofmkoelnaaGreatDoor.M
open Go.Proofs.YtappiofmkoelnaaGreatDoorW.Ah Go.Proofs.YtappiofmkoelnaaGreatDoor
set_option linter.unusedVariables false
set_option linter.unusedSimpArgs false
set_option maxRecDepth 8000
attribute [local simp] T.t2 T.t3 T.t4 T.t9 T.t21 T.t24 T.t26 T.t47 T.t87 List.range List.range.loop
attribute [-simp] appendAV fillAV
theorem ok_runes_Up (F : Nat) (a0 : Int) (r : Bool) (h : runes_Up F a0 = some r) : RunF Tryz.prog T.T 200 [.sc (.int .i32 a0)] (.sc (.bool r)) := by
  rw [runes_Up] at h
  refine RunF.z Tryz.func200 rfl rfl rfl rfl rfl (fun C hr => ?_)
  refine Stk.gen (fun t H n => t 0 = .sc (.int .i32 a0)) (by simp) ?_
  rintro t H n f0
  refine evY_sound (f := 9) ?_; simp [-splice, f0]
  refine Stk.gd 3 5 8 (fun z => .sc (.bool (z && (decide (a0 ≤ 90))))) (w := decide (65 ≤ a0)) (by simp [-splice, f0]) (by simp [-splice, f0]) (by simp [-splice, f0]) ?_; simp [-splice, f0]
  refine evY_sound (f := 3) ?_; simp [-splice, f0]
  have hq := Option.some.inj h; subst hq
  exact (hr _ _ _ (.sc (.bool ((decide (65 ≤ a0)) && (decide (a0 ≤ 90))))) ([]) (by simp [-splice, f0]) (.inr (.inr (.free (rfl))))).1
theorem ok_runes_Digit (F : Nat) (a0 : Int) (r : Bool) (h : runes_Digit F a0 = some r) : RunF Tryz.prog T.T 208 [.sc (.int .i32 a0)] (.sc (.bool r)) := by
  rw [runes_Digit] at h
  refine RunF.z Tryz.func208 rfl rfl rfl rfl rfl (fun C hr => ?_)
  refine Stk.gen (fun t H n => t 0 = .sc (.int .i32 a0)) (by simp) ?_
  rintro t H n f0
  refine evY_sound (f := 9) ?_; simp [-splice, f0]
  refine Stk.gd 3 5 8 (fun z => .sc (.bool (z && (decide (a0 ≤ 57))))) (w := decide (48 ≤ a0)) (by simp [-splice, f0]) (by simp [-splice, f0]) (by simp [-splice, f0]) ?_; simp [-splice, f0]
  refine evY_sound (f := 3) ?_; simp [-splice, f0]
  have hq := Option.some.inj h; subst hq
  exact (hr _ _ _ (.sc (.bool ((decide (48 ≤ a0)) && (decide (a0 ≤ 57))))) ([]) (by simp [-splice, f0]) (.inr (.inr (.free (rfl))))).1
theorem ok_lex_part (F : Nat) (a0 : Int) (r : Bool) (h : lex_part F a0 = some r) : RunF Tryz.prog T.T 199 [.sc (.int .i32 a0)] (.sc (.bool r)) := by
  rw [lex_part] at h
  refine RunF.z Tryz.func199 rfl rfl rfl rfl rfl (fun C hr => ?_)
  refine Stk.gen (fun t H n => t 0 = .sc (.int .i32 a0)) (by simp) ?_
  rintro t H n f0
  obtain ⟨x1, hx1, h⟩ := bnd h
  refine evY_sound (f := 7) ?_; simp [-splice, f0]
  refine Stk.cv (g := 201) (args := [.sc (.int .i32 a0)]) (args' := [.sc (.int .i32 a0)]) (v := .sc (.bool x1)) [] (ok_runes_Low F _ _ hx1) (by simp [-splice, f0]) rfl rfl (by simp [-splice, f0]) (.cons (.free (rfl)) (.nil)) (.inl ⟨rfl, rfl⟩) (fun t' ht' => ?_)
  subst ht'
  refine evY_sound (f := 1) ?_; simp [-splice, f0]
  refine Stk.gen (fun t H n => t 0 = .sc (.int .i32 a0) ∧ t 5 = .sc (.bool x1)) (by and_intros <;> first | assumption | simp [-splice, f0]) ?_
  clear f0
  rintro t H n ⟨f0, f5⟩
  obtain ⟨K1, hK1, h⟩ := jnd h
  refine Stk.jo 3 (fun t H n => ∃ v2 : Bool, K1 v2 = some r ∧ t 0 = .sc (.int .i32 a0) ∧ t 8 = .sc (.bool v2)) (fun J1 hJ1 => ?_) ?_
  · rcases Bool.eq_false_or_eq_true x1 with hb1 | hb1
    · rw [hb1] at f5
      replace h := cT hb1 h
      refine evY_sound (f := 4) ?_; simp [-splice, f0, f5]
      exact Stk.ln 0 (by decide) (hJ1 _ _ _ ⟨true, h, by and_intros <;> first | assumption | simp [-splice, f0, f5]⟩)
    · rw [hb1] at f5
      replace h := cF hb1 h
      obtain ⟨x3, hx3, h⟩ := bnd h
      refine evY_sound (f := 1) ?_; simp [-splice, f0, f5]
      refine Stk.cv (g := 200) (args := [.sc (.int .i32 a0)]) (args' := [.sc (.int .i32 a0)]) (v := .sc (.bool x3)) [] (ok_runes_Up F _ _ hx3) (by simp [-splice, f0, f5]) rfl rfl (by simp [-splice, f0, f5]) (.cons (.free (rfl)) (.nil)) (.inl ⟨rfl, rfl⟩) (fun t' ht' => ?_)
      subst ht'
      refine evY_sound (f := 2) ?_; simp [-splice, f0, f5]
      exact Stk.ln 0 (by decide) (hJ1 _ _ _ ⟨x3, h, by and_intros <;> first | assumption | simp [-splice, f0, f5]⟩)
  clear h f0 f5
  rintro t H n ⟨v2, h, f0, f8⟩
  subst hK1
  refine evY_sound (f := 1) ?_; simp [-splice, f0, f8]
  refine Stk.gen (fun t H n => t 0 = .sc (.int .i32 a0) ∧ t 9 = .sc (.bool v2)) (by and_intros <;> first | assumption | simp [-splice, f0, f8]) ?_
  clear f0 f8
  rintro t H n ⟨f0, f9⟩
  obtain ⟨K2, hK2, h⟩ := jnd h
  refine Stk.jo 3 (fun t H n => ∃ v4 : Bool, K2 v4 = some r ∧ t 0 = .sc (.int .i32 a0) ∧ t 12 = .sc (.bool v4)) (fun J2 hJ2 => ?_) ?_
  · rcases Bool.eq_false_or_eq_true v2 with hb2 | hb2
    · rw [hb2] at f9
      replace h := cT hb2 h
      refine evY_sound (f := 4) ?_; simp [-splice, f0, f9]
      exact Stk.ln 0 (by decide) (hJ2 _ _ _ ⟨true, h, by and_intros <;> first | assumption | simp [-splice, f0, f9]⟩)
    · rw [hb2] at f9
      replace h := cF hb2 h
      obtain ⟨x5, hx5, h⟩ := bnd h
      refine evY_sound (f := 1) ?_; simp [-splice, f0, f9]
      refine Stk.cv (g := 208) (args := [.sc (.int .i32 a0)]) (args' := [.sc (.int .i32 a0)]) (v := .sc (.bool x5)) [] (ok_runes_Digit F _ _ hx5) (by simp [-splice, f0, f9]) rfl rfl (by simp [-splice, f0, f9]) (.cons (.free (rfl)) (.nil)) (.inl ⟨rfl, rfl⟩) (fun t' ht' => ?_)
      subst ht'
      refine evY_sound (f := 2) ?_; simp [-splice, f0, f9]
      exact Stk.ln 0 (by decide) (hJ2 _ _ _ ⟨x5, h, by and_intros <;> first | assumption | simp [-splice, f0, f9]⟩)
  clear h f0 f9
  rintro t H n ⟨v4, h, f0, f12⟩
  subst hK2
  refine evY_sound (f := 1) ?_; simp [-splice, f0, f12]
  refine Stk.gd 3 13 16 (fun z => .sc (.bool (z || (a0 == 95)))) (w := v4) (by simp [-splice, f0, f12]) (by simp [-splice, f0, f12]) (by simp [-splice, f0, f12]) ?_; simp [-splice, f0, f12]
  refine evY_sound (f := 3) ?_; simp [-splice, f0, f12]
  have hq := Option.some.inj h; subst hq
  exact (hr _ _ _ (.sc (.bool (v4 || (a0 == 95)))) ([]) (by simp [-splice, f0, f12]) (.inr (.inr (.free (rfl))))).1
theorem ok_lex_Named (F : Nat) (a0 : ByteArray) (a1 : Bool) (r : Bool) (h : lex_Named F a0 a1 = some r) : RunF Tryz.prog T.T 172 [.sc (.string a0), .sc (.bool a1)] (.sc (.bool r)) := by
  rw [lex_Named] at h
  refine RunF.z Tryz.func172 rfl rfl rfl rfl rfl (fun C hr => ?_)
  refine Stk.gen (fun t H n => t 0 = .sc (.string a0) ∧ t 1 = .sc (.bool a1)) ⟨by simp, by simp⟩ ?_
  rintro t H n ⟨f0, f1⟩
  refine evY_sound (f := 10) ?_; simp [-splice, f0, f1]
  refine Stk.gen (fun t H n => t 0 = .sc (.string a0) ∧ t 1 = .sc (.bool a1) ∧ t 9 = .sc (.bool (a0.toList == (⟨#[]⟩ : ByteArray).toList))) (by and_intros <;> first | assumption | simp [-splice, f0, f1]) ?_
  clear f0 f1
  rintro t H n ⟨f0, f1, f9⟩
  obtain ⟨K1, hK1, h⟩ := jnd h
  refine Stk.jo 3 (fun t H n => ∃ v1 : Bool, K1 v1 = some r ∧ t 0 = .sc (.string a0) ∧ t 1 = .sc (.bool a1) ∧ t 12 = .sc (.bool v1)) (fun J1 hJ1 => ?_) ?_
  · rcases Bool.eq_false_or_eq_true (a0.toList == (⟨#[]⟩ : ByteArray).toList) with hb1 | hb1
    · rw [hb1] at f9
      replace h := cT hb1 h
      refine evY_sound (f := 4) ?_; simp [-splice, f0, f1, f9]
      exact Stk.ln 0 (by decide) (hJ1 _ _ _ ⟨true, h, by and_intros <;> first | assumption | simp [-splice, f0, f1, f9]⟩)
    · rw [hb1] at f9
      replace h := cF hb1 h
      obtain ⟨x2, hx2, h⟩ := bnd h
      refine evY_sound (f := 1) ?_; simp [-splice, f0, f1, f9]
      refine Stk.cv (g := 196) (args := [.sc (.string a0)]) (args' := [.sc (.string a0)]) (v := .sc (.bool x2)) [] (ok_lex_Word F _ _ hx2) (by simp [-splice, f0, f1, f9]) rfl rfl (by simp [-splice, f0, f1, f9]) (.cons (.free (rfl)) (.nil)) (.inl ⟨rfl, rfl⟩) (fun t' ht' => ?_)
      subst ht'
      refine evY_sound (f := 2) ?_; simp [-splice, f0, f1, f9]
      exact Stk.ln 0 (by decide) (hJ1 _ _ _ ⟨x2, h, by and_intros <;> first | assumption | simp [-splice, f0, f1, f9]⟩)
  clear h f0 f1 f9
  rintro t H n ⟨v1, h, f0, f1, f12⟩
  subst hK1
  refine evY_sound (f := 1) ?_; simp [-splice, f0, f1, f12]
  refine Stk.gen (fun t H n => t 0 = .sc (.string a0) ∧ t 1 = .sc (.bool a1) ∧ t 13 = .sc (.bool v1)) (by and_intros <;> first | assumption | simp [-splice, f0, f1, f12]) ?_
  clear f0 f1 f12
  rintro t H n ⟨f0, f1, f13⟩
  obtain ⟨K2, hK2, h⟩ := jnd h
  refine Stk.jo 4 (fun t H n => ∃ v3 : Bool, K2 v3 = some r ∧ t 0 = .sc (.string a0) ∧ t 1 = .sc (.bool a1) ∧ t 17 = .sc (.bool v3)) (fun J2 hJ2 => ?_) ?_
  · rcases Bool.eq_false_or_eq_true v1 with hb2 | hb2
    · rw [hb2] at f13
      replace h := cT hb2 h
      refine evY_sound (f := 5) ?_; simp [-splice, f0, f1, f13]
      exact Stk.ln 0 (by decide) (hJ2 _ _ _ ⟨true, h, by and_intros <;> first | assumption | simp [-splice, f0, f1, f13]⟩)
    · rw [hb2] at f13
      replace h := cF hb2 h
      obtain ⟨x4, hx4, h⟩ := bnd h
      refine evY_sound (f := 1) ?_; simp [-splice, f0, f1, f13]
      refine Stk.cv (g := 197) (args := [.sc (.string a0)]) (args' := [.sc (.string a0)]) (v := .sc (.bool x4)) [] (ok_unicode_utf8_ValidString F _ _ hx4) (by simp [-splice, f0, f1, f13]) rfl rfl (by simp [-splice, f0, f1, f13]) (.cons (.free (rfl)) (.nil)) (.inl ⟨rfl, rfl⟩) (fun t' ht' => ?_)
      subst ht'
      refine evY_sound (f := 3) ?_; simp [-splice, f0, f1, f13]
      exact Stk.ln 0 (by decide) (hJ2 _ _ _ ⟨(!x4), h, by and_intros <;> first | assumption | simp [-splice, f0, f1, f13]⟩)
  clear h f0 f1 f13
  rintro t H n ⟨v3, h, f0, f1, f17⟩
  subst hK2
  refine evY_sound (f := 1) ?_; simp [-splice, f0, f1, f17]
  refine Stk.gen (fun t H n => t 0 = .sc (.string a0) ∧ t 1 = .sc (.bool a1) ∧ t 18 = .sc (.bool v3)) (by and_intros <;> first | assumption | simp [-splice, f0, f1, f17]) ?_
  clear f0 f1 f17
  rintro t H n ⟨f0, f1, f18⟩
  obtain ⟨K3, hK3, h⟩ := jnd h
  refine Stk.jo 4 (fun t H n => ∃ v5 : Bool, K3 v5 = some r ∧ t 0 = .sc (.string a0) ∧ t 1 = .sc (.bool a1) ∧ t 22 = .sc (.bool v5)) (fun J3 hJ3 => ?_) ?_
  · rcases Bool.eq_false_or_eq_true v3 with hb3 | hb3
    · rw [hb3] at f18
      replace h := cT hb3 h
      refine evY_sound (f := 5) ?_; simp [-splice, f0, f1, f18]
      exact Stk.ln 0 (by decide) (hJ3 _ _ _ ⟨true, h, by and_intros <;> first | assumption | simp [-splice, f0, f1, f18]⟩)
    · rw [hb3] at f18
      replace h := cF hb3 h
      obtain ⟨x6, hx6, h⟩ := bnd h
      refine evY_sound (f := 1) ?_; simp [-splice, f0, f1, f18]
      refine Stk.cv (g := 198) (args := [.sc (.string a0)]) (args' := [.sc (.string a0)]) (v := .sc (.int .i64 x6)) [] (ok_unicode_utf8_RuneCountInString F _ _ hx6) (by simp [-splice, f0, f1, f18]) rfl rfl (by simp [-splice, f0, f1, f18]) (.cons (.free (rfl)) (.nil)) (.inl ⟨rfl, rfl⟩) (fun t' ht' => ?_)
      subst ht'
      refine evY_sound (f := 3) ?_; simp [-splice, f0, f1, f18]
      exact Stk.ln 0 (by decide) (hJ3 _ _ _ ⟨(decide (24 < x6)), h, by and_intros <;> first | assumption | simp [-splice, f0, f1, f18]⟩)
  clear h f0 f1 f18
  rintro t H n ⟨v5, h, f0, f1, f22⟩
  subst hK3
  refine evY_sound (f := 1) ?_; simp [-splice, f0, f1, f22]
  refine Stk.cond v5 (by simp [-splice, f0, f1, f22]) (fun hb7 => ?_) (fun hb7 => ?_)
  ·have h := cT hb7 h
   refine evY_sound (f := 5) ?_; simp [-splice, f0, f1, f22]
   have hq := Option.some.inj h; subst hq
   exact (hr _ _ _ (.sc (.bool false)) ([]) (by simp [-splice, f0, f1, f22]) (.inr (.inr (.free (rfl))))).1
  ·have h := cF hb7 h
   refine evY_sound (f := 5) ?_; simp [-splice, f0, f1, f22]
   refine Stk.gen (fun t H n => t 1 = .sc (.bool a1) ∧ t 23 = .sc (.string a0)) (by and_intros <;> first | assumption | simp [-splice, f0, f1, f22]) ?_
   clear f0 f1 f22
   rintro t H n ⟨f1, f23⟩
   refine Stk.om (mop_range T.t9 rfl f23) (by simp [f1, f23]) rfl (fun t' ht' => ?_)
   refine Stk.gen (fun t H n => ∃ b8, t 1 = .sc (.bool a1) ∧ t 24 = .own b8 0 ∧ H b8 = some (.iter a0 0) ∧ b8 < n) ⟨n, by simp [ht', f1], by simp [ht'], upd_same _ _ _, Nat.lt_succ_self _⟩ ?_
   clear f1 f23 ht' t'
   rintro t H n ⟨b8, f1, f24, b_b8, l_b8⟩
   refine evY_sound (f := 2) ?_; simp [-splice, f1, f24, b_b8]
   refine Stk.gen (fun t H n => t 1 = .sc (.bool a1) ∧ t 24 = .own b8 0 ∧ H b8 = some (.iter a0 0) ∧ b8 < n) (by and_intros <;> first | assumption | simp [-splice, f1, f24, b_b8]) ?_
   clear f1 f24 b_b8 l_b8
   rintro t H n ⟨f1, f24, b_b8, l_b8⟩
   refine Stk.lo (fun μ t H n => ∃ v9 : Nat, lex_Named_L0 F a0 a1 μ v9 = some r ∧ t 1 = .sc (.bool a1) ∧ t 24 = .own b8 0 ∧ H b8 = some (.iter a0 v9) ∧ b8 < n) F ⟨0, h, f1, f24, b_b8, l_b8⟩ ?_
   clear h f1 f24 b_b8 l_b8
   rintro J4 hJ4 μ t H n ⟨v9, h, f1, f24, b_b8, l_b8⟩
   cases μ with
   | zero => exact absurd h (by simp [lex_Named_L0])
   | succ μ =>
   rw [lex_Named_L0] at h
   refine evY_sound (f := 2) ?_; simp [-splice, f1, f24, b_b8]
   refine Stk.gen (fun t H n => t 1 = .sc (.bool a1) ∧ t 24 = .own b8 0 ∧ H b8 = some (.iter a0 v9) ∧ b8 < n) (by and_intros <;> first | assumption | simp [-splice, f1, f24, b_b8]) ?_
   clear f1 f24 b_b8 l_b8
   rintro t H n ⟨f1, f24, b_b8, l_b8⟩
   rcases Bool.eq_false_or_eq_true (decide (v9 < a0.size)) with hb11 | hb11
   · have h := cT hb11 h
     refine Stk.om (mop_nextT f24 b_b8 (of_decide_eq_true hb11)) (by simp [f1, f24]) rfl (fun t' ht' => ?_)
     refine Stk.gen (fun t H n => t 1 = .sc (.bool a1) ∧ t 24 = .own b8 0 ∧ t 25 = .tup [.sc (.bool true), .sc (.int .i64 (v9 : Int)), .sc (.int .i32 ((Utf8.decode a0 v9).1 : Int))] ∧ H b8 = some (.iter a0 (v9 + (Utf8.decode a0 v9).2)) ∧ b8 < n) ⟨by simp [ht', f1], by simp [ht', f24], by simp [ht'], upd_same _ _ _, l_b8⟩ ?_
     clear f1 f24 b_b8 l_b8 ht' t'
     rintro t H n ⟨f1, f24, f25, b_b8, l_b8⟩
     refine evY_sound (f := 3) ?_; simp [-splice, f1, f24, f25, b_b8]
     refine Stk.cond true (by simp [-splice, f1, f24, f25, b_b8]) (fun hb => ?_) (fun hb => by cases hb)
     obtain ⟨x12, hx12, h⟩ := bnd h
     refine evY_sound (f := 12) ?_; simp [-splice, f1, f24, f25, b_b8]
     refine Stk.cv (g := 199) (args := [.sc (.int .i32 ((Utf8.decode a0 v9).1 : Int))]) (args' := [.sc (.int .i32 ((Utf8.decode a0 v9).1 : Int))]) (v := .sc (.bool x12)) [] (ok_lex_part F _ _ hx12) (by simp [-splice, f1, f24, f25, b_b8]) rfl rfl (by simp [-splice, f1, f24, f25, b_b8]) (.cons (.free (rfl)) (.nil)) (.inl ⟨rfl, rfl⟩) (fun t' ht' => ?_)
     subst ht'
     refine evY_sound (f := 2) ?_; simp [-splice, f1, f24, f25, b_b8]
     refine Stk.gen (fun t H n => t 1 = .sc (.bool a1) ∧ t 5 = .sc (.int .i64 (v9 : Int)) ∧ t 6 = .sc (.int .i32 ((Utf8.decode a0 v9).1 : Int)) ∧ t 24 = .own b8 0 ∧ t 32 = .sc (.bool (!x12)) ∧ H b8 = some (.iter a0 (v9 + (Utf8.decode a0 v9).2)) ∧ b8 < n) (by and_intros <;> first | assumption | simp [-splice, f1, f24, f25, b_b8]) ?_
     clear f1 f24 f25 b_b8 l_b8
     rintro t H n ⟨f1, f5, f6, f24, f32, b_b8, l_b8⟩
     obtain ⟨K5, hK5, h⟩ := jnd h
     refine Stk.jo 20 (fun t H n => ∃ v13 : Bool, K5 v13 = some r ∧ t 1 = .sc (.bool a1) ∧ t 24 = .own b8 0 ∧ t 52 = .sc (.bool v13) ∧ H b8 = some (.iter a0 (v9 + (Utf8.decode a0 v9).2)) ∧ b8 < n) (fun J5 hJ5 => ?_) ?_
     · rcases Bool.eq_false_or_eq_true (!x12) with hb5 | hb5
       · rw [hb5] at f32
         replace h := cT hb5 h
         refine evY_sound (f := 21) ?_; simp [-splice, f1, f5, f6, f24, f32, b_b8]
         exact Stk.ln 0 (by decide) (hJ5 _ _ _ ⟨true, h, by and_intros <;> first | assumption | simp [-splice, f1, f5, f6, f24, f32, b_b8]⟩)
       · rw [hb5] at f32
         replace h := cF hb5 h
         refine evY_sound (f := 3) ?_; simp [-splice, f1, f5, f6, f24, f32, b_b8]
         refine Stk.gen (fun t H n => t 1 = .sc (.bool a1) ∧ t 6 = .sc (.int .i32 ((Utf8.decode a0 v9).1 : Int)) ∧ t 24 = .own b8 0 ∧ t 32 = .sc (.bool false) ∧ t 35 = .sc (.bool ((v9 : Int) == 0)) ∧ H b8 = some (.iter a0 (v9 + (Utf8.decode a0 v9).2)) ∧ b8 < n) (by and_intros <;> first | assumption | simp [-splice, f1, f5, f6, f24, f32, b_b8]) ?_
         clear f1 f5 f6 f24 f32 b_b8 l_b8
         rintro t H n ⟨f1, f6, f24, f32, f35, b_b8, l_b8⟩
         obtain ⟨K6, hK6, h⟩ := jnd h
         refine Stk.jo 16 (fun t H n => ∃ v14 : Bool, K6 v14 = some r ∧ t 1 = .sc (.bool a1) ∧ t 24 = .own b8 0 ∧ t 32 = .sc (.bool false) ∧ t 51 = .sc (.bool v14) ∧ H b8 = some (.iter a0 (v9 + (Utf8.decode a0 v9).2)) ∧ b8 < n) (fun J6 hJ6 => ?_) ?_
         · rcases Bool.eq_false_or_eq_true ((v9 : Int) == 0) with hb6 | hb6
           · rw [hb6] at f35
             replace h := cT hb6 h
             refine evY_sound (f := 2) ?_; simp [-splice, f1, f6, f24, f32, f35, b_b8]
             refine Stk.gen (fun t H n => t 1 = .sc (.bool a1) ∧ t 6 = .sc (.int .i32 ((Utf8.decode a0 v9).1 : Int)) ∧ t 24 = .own b8 0 ∧ t 32 = .sc (.bool false) ∧ t 35 = .sc (.bool true) ∧ t 37 = .sc (.bool a1) ∧ H b8 = some (.iter a0 (v9 + (Utf8.decode a0 v9).2)) ∧ b8 < n) (by and_intros <;> first | assumption | simp [-splice, f1, f6, f24, f32, f35, b_b8]) ?_
             clear f1 f6 f24 f32 f35 b_b8 l_b8
             rintro t H n ⟨f1, f6, f24, f32, f35, f37, b_b8, l_b8⟩
             obtain ⟨K7, hK7, h⟩ := jnd h
             refine Stk.jo 4 (fun t H n => ∃ v15 : Bool, K7 v15 = some r ∧ t 1 = .sc (.bool a1) ∧ t 6 = .sc (.int .i32 ((Utf8.decode a0 v9).1 : Int)) ∧ t 24 = .own b8 0 ∧ t 32 = .sc (.bool false) ∧ t 35 = .sc (.bool true) ∧ t 41 = .sc (.bool v15) ∧ H b8 = some (.iter a0 (v9 + (Utf8.decode a0 v9).2)) ∧ b8 < n) (fun J7 hJ7 => ?_) ?_
             · rcases Bool.eq_false_or_eq_true a1 with hb7 | hb7
               · rw [hb7] at f37
                 replace h := cT hb7 h
                 obtain ⟨x16, hx16, h⟩ := bnd h
                 refine evY_sound (f := 1) ?_; simp [-splice, f1, f6, f24, f32, f35, f37, b_b8]
                 refine Stk.cv (g := 200) (args := [.sc (.int .i32 ((Utf8.decode a0 v9).1 : Int))]) (args' := [.sc (.int .i32 ((Utf8.decode a0 v9).1 : Int))]) (v := .sc (.bool x16)) [] (ok_runes_Up F _ _ hx16) (by simp [-splice, f1, f6, f24, f32, f35, f37, b_b8]) rfl rfl (by simp [-splice, f1, f6, f24, f32, f35, f37, b_b8]) (.cons (.free (rfl)) (.nil)) (.inl ⟨rfl, rfl⟩) (fun t' ht' => ?_)
                 subst ht'
                 refine evY_sound (f := 3) ?_; simp [-splice, f1, f6, f24, f32, f35, f37, b_b8]
                 exact Stk.ln 0 (by decide) (hJ7 _ _ _ ⟨(!x16), h, by and_intros <;> first | assumption | simp [-splice, f1, f6, f24, f32, f35, f37, b_b8]⟩)
               · rw [hb7] at f37
                 replace h := cF hb7 h
                 refine evY_sound (f := 5) ?_; simp [-splice, f1, f6, f24, f32, f35, f37, b_b8]
                 exact Stk.ln 0 (by decide) (hJ7 _ _ _ ⟨false, h, by and_intros <;> first | assumption | simp [-splice, f1, f6, f24, f32, f35, f37, b_b8]⟩)
             clear h f1 f6 f24 f32 f35 f37 b_b8 l_b8
             rintro t H n ⟨v15, h, f1, f6, f24, f32, f35, f41, b_b8, l_b8⟩
             subst hK7
             refine evY_sound (f := 1) ?_; simp [-splice, f1, f6, f24, f32, f35, f41, b_b8]
             refine Stk.gen (fun t H n => t 1 = .sc (.bool a1) ∧ t 6 = .sc (.int .i32 ((Utf8.decode a0 v9).1 : Int)) ∧ t 24 = .own b8 0 ∧ t 32 = .sc (.bool false) ∧ t 35 = .sc (.bool true) ∧ t 42 = .sc (.bool v15) ∧ H b8 = some (.iter a0 (v9 + (Utf8.decode a0 v9).2)) ∧ b8 < n) (by and_intros <;> first | assumption | simp [-splice, f1, f6, f24, f32, f35, f41, b_b8]) ?_
             clear f1 f6 f24 f32 f35 f41 b_b8 l_b8
             rintro t H n ⟨f1, f6, f24, f32, f35, f42, b_b8, l_b8⟩
             obtain ⟨K8, hK8, h⟩ := jnd h
             refine Stk.jo 8 (fun t H n => ∃ v17 : Bool, K8 v17 = some r ∧ t 1 = .sc (.bool a1) ∧ t 24 = .own b8 0 ∧ t 32 = .sc (.bool false) ∧ t 35 = .sc (.bool true) ∧ t 50 = .sc (.bool v17) ∧ H b8 = some (.iter a0 (v9 + (Utf8.decode a0 v9).2)) ∧ b8 < n) (fun J8 hJ8 => ?_) ?_
             · rcases Bool.eq_false_or_eq_true v15 with hb8 | hb8
               · rw [hb8] at f42
                 replace h := cT hb8 h
                 refine evY_sound (f := 9) ?_; simp [-splice, f1, f6, f24, f32, f35, f42, b_b8]
                 exact Stk.ln 0 (by decide) (hJ8 _ _ _ ⟨true, h, by and_intros <;> first | assumption | simp [-splice, f1, f6, f24, f32, f35, f42, b_b8]⟩)
               · rw [hb8] at f42
                 replace h := cF hb8 h
                 refine evY_sound (f := 3) ?_; simp [-splice, f1, f6, f24, f32, f35, f42, b_b8]
                 refine Stk.gen (fun t H n => t 1 = .sc (.bool a1) ∧ t 6 = .sc (.int .i32 ((Utf8.decode a0 v9).1 : Int)) ∧ t 24 = .own b8 0 ∧ t 32 = .sc (.bool false) ∧ t 35 = .sc (.bool true) ∧ t 42 = .sc (.bool false) ∧ t 45 = .sc (.bool (!a1)) ∧ H b8 = some (.iter a0 (v9 + (Utf8.decode a0 v9).2)) ∧ b8 < n) (by and_intros <;> first | assumption | simp [-splice, f1, f6, f24, f32, f35, f42, b_b8]) ?_
                 clear f1 f6 f24 f32 f35 f42 b_b8 l_b8
                 rintro t H n ⟨f1, f6, f24, f32, f35, f42, f45, b_b8, l_b8⟩
                 obtain ⟨K9, hK9, h⟩ := jnd h
                 refine Stk.jo 4 (fun t H n => ∃ v18 : Bool, K9 v18 = some r ∧ t 1 = .sc (.bool a1) ∧ t 24 = .own b8 0 ∧ t 32 = .sc (.bool false) ∧ t 35 = .sc (.bool true) ∧ t 42 = .sc (.bool false) ∧ t 49 = .sc (.bool v18) ∧ H b8 = some (.iter a0 (v9 + (Utf8.decode a0 v9).2)) ∧ b8 < n) (fun J9 hJ9 => ?_) ?_
                 · rcases Bool.eq_false_or_eq_true (!a1) with hb9 | hb9
                   · rw [hb9] at f45
                     replace h := cT hb9 h
                     obtain ⟨x19, hx19, h⟩ := bnd h
                     refine evY_sound (f := 1) ?_; simp [-splice, f1, f6, f24, f32, f35, f42, f45, b_b8]
                     refine Stk.cv (g := 201) (args := [.sc (.int .i32 ((Utf8.decode a0 v9).1 : Int))]) (args' := [.sc (.int .i32 ((Utf8.decode a0 v9).1 : Int))]) (v := .sc (.bool x19)) [] (ok_runes_Low F _ _ hx19) (by simp [-splice, f1, f6, f24, f32, f35, f42, f45, b_b8]) rfl rfl (by simp [-splice, f1, f6, f24, f32, f35, f42, f45, b_b8]) (.cons (.free (rfl)) (.nil)) (.inl ⟨rfl, rfl⟩) (fun t' ht' => ?_)
                     subst ht'
                     refine evY_sound (f := 3) ?_; simp [-splice, f1, f6, f24, f32, f35, f42, f45, b_b8]
                     exact Stk.ln 0 (by decide) (hJ9 _ _ _ ⟨(!x19), h, by and_intros <;> first | assumption | simp [-splice, f1, f6, f24, f32, f35, f42, f45, b_b8]⟩)
                   · rw [hb9] at f45
                     replace h := cF hb9 h
                     refine evY_sound (f := 5) ?_; simp [-splice, f1, f6, f24, f32, f35, f42, f45, b_b8]
                     exact Stk.ln 0 (by decide) (hJ9 _ _ _ ⟨false, h, by and_intros <;> first | assumption | simp [-splice, f1, f6, f24, f32, f35, f42, f45, b_b8]⟩)
                 clear h f1 f6 f24 f32 f35 f42 f45 b_b8 l_b8
                 rintro t H n ⟨v18, h, f1, f24, f32, f35, f42, f49, b_b8, l_b8⟩
                 subst hK9
                 refine evY_sound (f := 2) ?_; simp [-splice, f1, f24, f32, f35, f42, f49, b_b8]
                 exact Stk.ln 0 (by decide) (hJ8 _ _ _ ⟨v18, h, by and_intros <;> first | assumption | simp [-splice, f1, f24, f32, f35, f42, f49, b_b8]⟩)
             clear h f1 f6 f24 f32 f35 f42 b_b8 l_b8
             rintro t H n ⟨v17, h, f1, f24, f32, f35, f50, b_b8, l_b8⟩
             subst hK8
             refine evY_sound (f := 2) ?_; simp [-splice, f1, f24, f32, f35, f50, b_b8]
             exact Stk.ln 0 (by decide) (hJ6 _ _ _ ⟨v17, h, by and_intros <;> first | assumption | simp [-splice, f1, f24, f32, f35, f50, b_b8]⟩)
           · rw [hb6] at f35
             replace h := cF hb6 h
             refine evY_sound (f := 17) ?_; simp [-splice, f1, f6, f24, f32, f35, b_b8]
             exact Stk.ln 0 (by decide) (hJ6 _ _ _ ⟨false, h, by and_intros <;> first | assumption | simp [-splice, f1, f6, f24, f32, f35, b_b8]⟩)
         clear h f1 f6 f24 f32 f35 b_b8 l_b8
         rintro t H n ⟨v14, h, f1, f24, f32, f51, b_b8, l_b8⟩
         subst hK6
         refine evY_sound (f := 2) ?_; simp [-splice, f1, f24, f32, f51, b_b8]
         exact Stk.ln 0 (by decide) (hJ5 _ _ _ ⟨v14, h, by and_intros <;> first | assumption | simp [-splice, f1, f24, f32, f51, b_b8]⟩)
     clear h f1 f5 f6 f24 f32 b_b8 l_b8
     rintro t H n ⟨v13, h, f1, f24, f52, b_b8, l_b8⟩
     subst hK5
     refine evY_sound (f := 1) ?_; simp [-splice, f1, f24, f52, b_b8]
     refine Stk.cond v13 (by simp [-splice, f1, f24, f52, b_b8]) (fun hb20 => ?_) (fun hb20 => ?_)
     ·have h := cT hb20 h
      refine evY_sound (f := 5) ?_; simp [-splice, f1, f24, f52, b_b8]
      have hq := Option.some.inj h; subst hq
      exact (hr _ _ _ (.sc (.bool false)) ([]) (by simp [-splice, f1, f24, f52, b_b8]) (.inr (.inr (.free (rfl))))).1
     ·have h := cF hb20 h
      refine evY_sound (f := 2) ?_; simp [-splice, f1, f24, f52, b_b8]
      exact Stk.ln μ (Nat.lt_succ_self _) (hJ4 _ _ _ _ ⟨(v9 + (Utf8.decode a0 v9).2), h, by and_intros <;> first | assumption | simp [-splice, f1, f24, f52, b_b8]⟩)
   · have h := cF hb11 h
     refine Stk.om (mop_nextF f24 b_b8 (of_decide_eq_false hb11)) (by simp [f1, f24]) rfl (fun t' ht' => ?_)
     refine Stk.gen (fun t H n => t 1 = .sc (.bool a1) ∧ t 24 = .own b8 0 ∧ t 25 = .tup [.sc (.bool false)] ∧ H b8 = some (.iter a0 v9) ∧ b8 < n) ⟨by simp [ht', f1], by simp [ht', f24], by simp [ht'], b_b8, l_b8⟩ ?_
     clear f1 f24 b_b8 l_b8 ht' t'
     rintro t H n ⟨f1, f24, f25, b_b8, l_b8⟩
     refine evY_sound (f := 3) ?_; simp [-splice, f1, f24, f25, b_b8]
     refine Stk.cond false (by simp [-splice, f1, f24, f25, b_b8]) (fun hb => by cases hb) (fun hb => ?_)
     refine Stk.ex rfl ?_
     refine evY_sound (f := 5) ?_; simp [-splice, f1, f24, f25, b_b8]
     have hq := Option.some.inj h; subst hq
     exact (hr _ _ _ (.sc (.bool true)) ([]) (by simp [-splice, f1, f24, f25, b_b8]) (.inr (.inr (.free (rfl))))).1
theorem ok_ast_small (F : Nat) (a0 : ByteArray) (r : Bool) (h : ast_small F a0 = some r) : RunF Tryz.prog T.T 112 [.sc (.string a0)] (.sc (.bool r)) := by
  rw [ast_small] at h
  refine RunF.z Tryz.func112 rfl rfl rfl rfl rfl (fun C hr => ?_)
  refine Stk.gen (fun t H n => t 0 = .sc (.string a0)) (by simp) ?_
  rintro t H n f0
  obtain ⟨x1, hx1, h⟩ := bnd h
  refine evY_sound (f := 7) ?_; simp [-splice, f0]
  refine Stk.cv (g := 172) (args := [.sc (.string a0), .sc (.bool false)]) (args' := [.sc (.string a0), .sc (.bool false)]) (v := .sc (.bool x1)) [] (ok_lex_Named F _ _ _ hx1) (by simp [-splice, f0]) rfl rfl (by simp [-splice, f0]) (.cons (.free (rfl)) (.cons (.free (rfl)) (.nil))) (.inl ⟨rfl, rfl⟩) (fun t' ht' => ?_)
  subst ht'
  refine evY_sound (f := 3) ?_; simp [-splice, f0]
  have hq := Option.some.inj h; subst hq
  exact (hr _ _ _ (.sc (.bool x1)) ([]) (by simp [-splice, f0]) (.inr (.inr (.free (rfl))))).1
theorem ok_ast_declared (F : Nat) (a0 : ByteArray) (r : Bool) (h : ast_declared F a0 = some r) : RunF Tryz.prog T.T 102 [.sc (.string a0)] (.sc (.bool r)) := by
  rw [ast_declared] at h
  refine RunF.z Tryz.func102 rfl rfl rfl rfl rfl (fun C hr => ?_)
  refine Stk.gen (fun t H n => t 0 = .sc (.string a0)) (by simp) ?_
  rintro t H n f0
  obtain ⟨x1, hx1, h⟩ := bnd h
  refine evY_sound (f := 7) ?_; simp [-splice, f0]
  refine Stk.cv (g := 112) (args := [.sc (.string a0)]) (args' := [.sc (.string a0)]) (v := .sc (.bool x1)) [] (ok_ast_small F _ _ hx1) (by simp [-splice, f0]) rfl rfl (by simp [-splice, f0]) (.cons (.free (rfl)) (.nil)) (.inl ⟨rfl, rfl⟩) (fun t' ht' => ?_)
  subst ht'
  refine evY_sound (f := 1) ?_; simp [-splice, f0]
  refine Stk.gd 3 5 8 (fun z => .sc (.bool (z && (!(a0.toList == (⟨#[105, 110, 116]⟩ : ByteArray).toList))))) (w := x1) (by simp [-splice, f0]) (by simp [-splice, f0]) (by simp [-splice, f0]) ?_; simp [-splice, f0]
  refine evY_sound (f := 1) ?_; simp [-splice, f0]
  refine Stk.gd 3 9 12 (fun z => .sc (.bool (z && (!(a0.toList == (⟨#[98, 121, 116, 101, 115]⟩ : ByteArray).toList))))) (w := (x1 && (!(a0.toList == (⟨#[105, 110, 116]⟩ : ByteArray).toList)))) (by simp [-splice, f0]) (by simp [-splice, f0]) (by simp [-splice, f0]) ?_; simp [-splice, f0]
  refine evY_sound (f := 3) ?_; simp [-splice, f0]
  have hq := Option.some.inj h; subst hq
  exact (hr _ _ _ (.sc (.bool ((x1 && (!(a0.toList == (⟨#[105, 110, 116]⟩ : ByteArray).toList))) && (!(a0.toList == (⟨#[98, 121, 116, 101, 115]⟩ : ByteArray).toList))))) ([]) (by simp [-splice, f0]) (.inr (.inr (.free (rfl))))).1
theorem ok_slices_IndexFunc_api_Type_api_Type (F : Nat) (a0 : (List api_Type)) (φ1 : api_Type → Option Bool) (g1 : FuncId) (first1 caps1 : List AV) (fr1 : freeL first1 = true ∧ freeL caps1 = true) (hφ1 : ∀ y0 r, φ1 y0 = some r → RunF Tryz.prog T.T g1 (first1 ++ [.agg (c26 y0)] ++ caps1) (.sc (.bool r))) (r : Int) (h : slices_IndexFunc_api_Type_api_Type F a0 φ1 = some r) : RunF Tryz.prog T.T 187 [.ssl (encs c26 a0) a0.length false, .fn (.func g1) first1 caps1] (.sc (.int .i64 r)) := by
  rw [slices_IndexFunc_api_Type_api_Type] at h
  refine RunF.z Tryz.func187 rfl rfl rfl rfl rfl (fun C hr => ?_)
  refine Stk.gen (fun t H n => t 0 = .ssl (encs c26 a0) a0.length false ∧ t 1 = .fn (.func g1) first1 caps1) ⟨by simp, by simp⟩ ?_
  rintro t H n ⟨f0, f1⟩
  refine evY_sound (f := 12) ?_; simp [-splice, f0, f1]
  refine Stk.gen (fun t H n => t 0 = .ssl (encs c26 a0) a0.length false ∧ t 1 = .fn (.func g1) first1 caps1 ∧ t 7 = .sc (.int .i64 (a0.length : Int)) ∧ t 8 = .sc (.int .i64 0)) (by and_intros <;> first | assumption | simp [-splice, f0, f1]) ?_
  clear f0 f1
  rintro t H n ⟨f0, f1, f7, f8⟩
  refine Stk.lo (fun μ t H n => ∃ v1 : Int, slices_IndexFunc_api_Type_api_Type_L0 F a0 φ1 μ v1 = some r ∧ t 0 = .ssl (encs c26 a0) a0.length false ∧ t 1 = .fn (.func g1) first1 caps1 ∧ t 7 = .sc (.int .i64 (a0.length : Int)) ∧ t 8 = .sc (.int .i64 v1)) F ⟨0, h, f0, f1, f7, f8⟩ ?_
  clear h f0 f1 f7 f8
  rintro J1 hJ1 μ t H n ⟨v1, h, f0, f1, f7, f8⟩
  cases μ with
  | zero => exact absurd h (by simp [slices_IndexFunc_api_Type_api_Type_L0])
  | succ μ =>
  rw [slices_IndexFunc_api_Type_api_Type_L0] at h
  refine evY_sound (f := 5) ?_; simp [-splice, f0, f1, f7, f8]
  refine Stk.cond (decide (v1 < (a0.length : Int))) (by simp [-splice, f0, f1, f7, f8]) (fun hb3 => ?_) (fun hb3 => ?_)
  ·have h := cT hb3 h
   obtain ⟨x4, hx4, h⟩ := bnd h
   obtain ⟨i0x4, i1x4, i2x4, _⟩ := idx_ok hx4
   have ex4_0_26 : partOf T.T 26 (encs c26 a0) (v1.toNat * 3) = some (.agg (c26 x4)) := by
       have e0 := part_elem0 (e := c26) (z := 3) (T := T.T) (ty := 26) T.t26 (by decide) (by decide) hx4 0 (by decide)
       (try simp only [Nat.mul_one, Nat.add_zero] at e0)
       exact e0.trans (ld_26_0_26 _)
   obtain ⟨x5, hx5, h⟩ := bnd h
   refine evY_sound (f := 15) ?_; simp [-splice, f0, f1, f7, f8, i0x4, i1x4, pd26, ex4_0_26]
   refine Stk.cv (g := g1) (first := first1) (caps := caps1) (args := first1 ++ [.agg (c26 x4)] ++ caps1) (args' := first1 ++ [.agg (c26 x4)] ++ caps1) (v := .sc (.bool x5)) [] (hφ1 _ _ hx5) (by simp [-splice, f0, f1, f7, f8, i0x4, i1x4, pd26, ex4_0_26]) rfl (by simp [-splice, f0, f1, f7, f8, i0x4, i1x4, pd26, ex4_0_26]) (by simp [-splice, f0, f1, f7, f8, i0x4, i1x4, pd26, ex4_0_26]) (viewL_mid (x := [.agg (c26 x4)]) (y := [.agg (c26 x4)]) fr1.1 fr1.2 (.cons (.free (fr26 _)) (.nil))) (.inl ⟨rfl, rfl⟩) (fun t' ht' => ?_)
   subst ht'
   refine evY_sound (f := 1) ?_; simp [-splice, f0, f1, f7, f8, i0x4, i1x4, pd26, ex4_0_26]
   refine Stk.cond x5 (by simp [-splice, f0, f1, f7, f8, i0x4, i1x4, pd26, ex4_0_26]) (fun hb6 => ?_) (fun hb6 => ?_)
   ·have h := cT hb6 h
    refine evY_sound (f := 6) ?_; simp [-splice, f0, f1, f7, f8, i0x4, i1x4, pd26, ex4_0_26]
    have hq := Option.some.inj h; subst hq
    exact (hr _ _ _ (.sc (.int .i64 v1)) ([]) (by simp [-splice, f0, f1, f7, f8, i0x4, i1x4, pd26, ex4_0_26]) (.inr (.inr (.free (rfl))))).1
   ·have h := cF hb6 h
    refine evY_sound (f := 6) ?_; simp [-splice, f0, f1, f7, f8, i0x4, i1x4, pd26, ex4_0_26]
    exact Stk.ln μ (Nat.lt_succ_self _) (hJ1 _ _ _ _ ⟨(IntKind.i64.wrap (v1 + 1)), h, by and_intros <;> first | assumption | simp [-splice, f0, f1, f7, f8, i0x4, i1x4, pd26, ex4_0_26]⟩)
  ·have h := cF hb3 h
   refine Stk.ex rfl ?_
   refine evY_sound (f := 5) ?_; simp [-splice, f0, f1, f7, f8]
   have hq := Option.some.inj h; subst hq
   exact (hr _ _ _ (.sc (.int .i64 (-1))) ([]) (by simp [-splice, f0, f1, f7, f8]) (.inr (.inr (.free (rfl))))).1
theorem ok_slices_ContainsFunc_api_Type_api_Type (F : Nat) (a0 : (List api_Type)) (φ1 : api_Type → Option Bool) (g1 : FuncId) (first1 caps1 : List AV) (fr1 : freeL first1 = true ∧ freeL caps1 = true) (hφ1 : ∀ y0 r, φ1 y0 = some r → RunF Tryz.prog T.T g1 (first1 ++ [.agg (c26 y0)] ++ caps1) (.sc (.bool r))) (r : Bool) (h : slices_ContainsFunc_api_Type_api_Type F a0 φ1 = some r) : RunF Tryz.prog T.T 135 [.ssl (encs c26 a0) a0.length false, .fn (.func g1) first1 caps1] (.sc (.bool r)) := by
  rw [slices_ContainsFunc_api_Type_api_Type] at h
  refine RunF.z Tryz.func135 rfl rfl rfl rfl rfl (fun C hr => ?_)
  refine Stk.gen (fun t H n => t 0 = .ssl (encs c26 a0) a0.length false ∧ t 1 = .fn (.func g1) first1 caps1) ⟨by simp, by simp⟩ ?_
  rintro t H n ⟨f0, f1⟩
  obtain ⟨x1, hx1, h⟩ := bnd h
  refine evY_sound (f := 8) ?_; simp [-splice, f0, f1]
  refine Stk.cv (g := 187) (args := [.ssl (encs c26 a0) a0.length false, .fn (.func g1) first1 caps1]) (args' := [.ssl (encs c26 a0) a0.length false, .fn (.func g1) first1 caps1]) (v := .sc (.int .i64 x1)) [] (ok_slices_IndexFunc_api_Type_api_Type F _ _ _ _ _ fr1 hφ1 _ hx1) (by simp [-splice, f0, f1]) rfl rfl (by simp [-splice, f0, f1]) (.cons (.free (freeL_encs fr26 _)) (.cons (.free (by simp [free, fr1])) (.nil))) (.inl ⟨rfl, rfl⟩) (fun t' ht' => ?_)
  subst ht'
  refine evY_sound (f := 4) ?_; simp [-splice, f0, f1]
  have hq := Option.some.inj h; subst hq
  exact (hr _ _ _ (.sc (.bool (decide (0 ≤ x1)))) ([]) (by simp [-splice, f0, f1]) (.inr (.inr (.free (rfl))))).1
theorem ok_ast_every_api_Type_1 (F : Nat) (a0 : api_Type) (φ1 : api_Type → Option Bool) (g1 : FuncId) (first1 caps1 : List AV) (fr1 : freeL first1 = true ∧ freeL caps1 = true) (hφ1 : ∀ y0 r, φ1 y0 = some r → RunF Tryz.prog T.T g1 (first1 ++ [.agg (c26 y0)] ++ caps1) (.sc (.bool r))) (r : Bool) (h : ast_every_api_Type_1 F a0 φ1 = some r) : RunF Tryz.prog T.T 184 [.agg (c26 a0), .sh [.fn (.func g1) first1 caps1]] (.sc (.bool r)) := by
  rw [ast_every_api_Type_1] at h
  refine RunF.z Tryz.func184 rfl rfl rfl rfl rfl (fun C hr => ?_)
  refine Stk.gen (fun t H n => t 0 = .agg (c26 a0) ∧ t 1 = .sh [.fn (.func g1) first1 caps1]) ⟨by simp, by simp⟩ ?_
  rintro t H n ⟨f0, f1⟩
  refine evY_sound (f := 2) ?_; simp [-splice, f0, f1]
  refine Stk.gen (fun t H n => t 0 = .agg (c26 a0) ∧ t 1 = .sh [.fn (.func g1) first1 caps1]) (by and_intros <;> first | assumption | simp [-splice, f0, f1]) ?_
  clear f0 f1
  rintro t H n ⟨f0, f1⟩
  refine Stk.om (mop_box T.t26 (cs := c26 a0) (by show partOk (t 0) = true; rw [f0]; rfl) (by show cellsOf (t 0) = _; rw [f0]; rfl)) (by simp [f0, f1]) rfl (fun t' ht' => ?_)
  refine Stk.gen (fun t H n => ∃ b1, t 1 = .sh [.fn (.func g1) first1 caps1] ∧ t 2 = .own b1 0 ∧ H b1 = some (.cells (c26 a0) 26) ∧ b1 < n) ⟨n, by simp [ht', f1], by simp [ht'], upd_same _ _ _, Nat.lt_succ_self _⟩ ?_
  clear f0 f1 ht' t'
  rintro t H n ⟨b1, f1, f2, b_b1, l_b1⟩
  obtain ⟨x2, hx2, h⟩ := bnd h
  refine evY_sound (f := 6) ?_; simp [-splice, f1, f2, b_b1, ldF47, ld_26_0_26]
  refine Stk.cv (g := g1) (first := first1) (caps := caps1) (args := first1 ++ [.agg (c26 a0)] ++ caps1) (args' := first1 ++ [.agg (c26 a0)] ++ caps1) (v := .sc (.bool x2)) [] (hφ1 _ _ hx2) (by simp [-splice, f1, f2, b_b1, ldF47, ld_26_0_26]) rfl (by simp [-splice, f1, f2, b_b1, ldF47, ld_26_0_26]) (by simp [-splice, f1, f2, b_b1, ldF47, ld_26_0_26]) (viewL_mid (x := [.agg (c26 a0)]) (y := [.agg (c26 a0)]) fr1.1 fr1.2 (.cons (.free (fr26 _)) (.nil))) (.inl ⟨rfl, rfl⟩) (fun t' ht' => ?_)
  subst ht'
  refine evY_sound (f := 4) ?_; simp [-splice, f1, f2, b_b1, ldF47, ld_26_0_26]
  have hq := Option.some.inj h; subst hq
  exact (hr _ _ _ (.sc (.bool (!x2))) ([]) (by simp [-splice, f1, f2, b_b1, ldF47, ld_26_0_26]) (.inr (.inr (.free (rfl))))).1
theorem ok_ast_every_api_Type (F : Nat) (a0 : (List api_Type)) (a1 : Int) (a2 : Int) (φ3 : api_Type → Option Bool) (g3 : FuncId) (first3 caps3 : List AV) (fr3 : freeL first3 = true ∧ freeL caps3 = true) (hφ3 : ∀ y0 r, φ3 y0 = some r → RunF Tryz.prog T.T g3 (first3 ++ [.agg (c26 y0)] ++ caps3) (.sc (.bool r))) (r : Bool) (h : ast_every_api_Type F a0 a1 a2 φ3 = some r) : RunF Tryz.prog T.T 129 [.ssl (encs c26 a0) a0.length false, .sc (.int .i64 a1), .sc (.int .i64 a2), .fn (.func g3) first3 caps3] (.sc (.bool r)) := by
  rw [ast_every_api_Type] at h
  refine RunF.z Tryz.func129 rfl rfl rfl rfl rfl (fun C hr => ?_)
  refine Stk.gen (fun t H n => t 0 = .ssl (encs c26 a0) a0.length false ∧ t 1 = .sc (.int .i64 a1) ∧ t 2 = .sc (.int .i64 a2) ∧ t 3 = .fn (.func g3) first3 caps3) ⟨by simp, by simp, by simp, by simp⟩ ?_
  rintro t H n ⟨f0, f1, f2, f3⟩
  refine evY_sound (f := 2) ?_; simp [-splice, f0, f1, f2, f3]
  refine Stk.gen (fun t H n => t 0 = .ssl (encs c26 a0) a0.length false ∧ t 1 = .sc (.int .i64 a1) ∧ t 2 = .sc (.int .i64 a2) ∧ t 3 = .fn (.func g3) first3 caps3) (by and_intros <;> first | assumption | simp [-splice, f0, f1, f2, f3]) ?_
  clear f0 f1 f2 f3
  rintro t H n ⟨f0, f1, f2, f3⟩
  refine Stk.om (mop_box T.t47 (cs := [.fn (.func g3) first3 caps3]) (by show partOk (t 3) = true; rw [f3]; rfl) (by show cellsOf (t 3) = _; rw [f3]; rfl)) (by simp [f0, f1, f2, f3]) rfl (fun t' ht' => ?_)
  refine Stk.gen (fun t H n => ∃ b1, t 0 = .ssl (encs c26 a0) a0.length false ∧ t 1 = .sc (.int .i64 a1) ∧ t 2 = .sc (.int .i64 a2) ∧ t 7 = .own b1 0 ∧ H b1 = some (.cells ([.fn (.func g3) first3 caps3]) 47) ∧ b1 < n) ⟨n, by simp [ht', f0], by simp [ht', f1], by simp [ht', f2], by simp [ht'], upd_same _ _ _, Nat.lt_succ_self _⟩ ?_
  clear f0 f1 f2 f3 ht' t'
  rintro t H n ⟨b1, f0, f1, f2, f7, b_b1, l_b1⟩
  refine evY_sound (f := 9) ?_; simp [-splice, f0, f1, f2, f7, b_b1]
  refine Stk.gd 5 13 18 (fun z => .sc (.bool (z && (decide ((a0.length : Int) ≤ a2))))) (w := decide (a1 ≤ (a0.length : Int))) (by simp [-splice, f0, f1, f2, f7, b_b1]) (by simp [-splice, f0, f1, f2, f7, b_b1]) (by simp [-splice, f0, f1, f2, f7, b_b1]) ?_; simp [-splice, f0, f1, f2, f7, b_b1]
  refine evY_sound (f := 1) ?_; simp [-splice, f0, f1, f2, f7, b_b1]
  refine Stk.gen (fun t H n => t 0 = .ssl (encs c26 a0) a0.length false ∧ t 7 = .own b1 0 ∧ t 19 = .sc (.bool ((decide (a1 ≤ (a0.length : Int))) && (decide ((a0.length : Int) ≤ a2)))) ∧ H b1 = some (.cells ([.fn (.func g3) first3 caps3]) 47) ∧ b1 < n) (by and_intros <;> first | assumption | simp [-splice, f0, f1, f2, f7, b_b1]) ?_
  clear f0 f1 f2 f7 b_b1 l_b1
  rintro t H n ⟨f0, f7, f19, b_b1, l_b1⟩
  obtain ⟨K1, hK1, h⟩ := jnd h
  refine Stk.jo 5 (fun t H n => ∃ v2 : Bool, K1 v2 = some r ∧ t 24 = .sc (.bool v2)) (fun J1 hJ1 => ?_) ?_
  · rcases Bool.eq_false_or_eq_true ((decide (a1 ≤ (a0.length : Int))) && (decide ((a0.length : Int) ≤ a2))) with hb1 | hb1
    · rw [hb1] at f19
      replace h := cT hb1 h
      obtain ⟨x3, hx3, h⟩ := bnd h
      refine evY_sound (f := 2) ?_; simp [-splice, f0, f7, f19, b_b1]
      refine Stk.cv (g := 135) (args := [.ssl (encs c26 a0) a0.length false, .fn (.func 184) [] [.own b1 0]]) (args' := [.ssl (encs c26 a0) a0.length false, .fn (.func 184) [] [.sh [.fn (.func g3) first3 caps3]]]) (v := .sc (.bool x3)) [b1] (ok_slices_ContainsFunc_api_Type_api_Type F _ _ 184 [] [.sh [.fn (.func g3) first3 caps3]] (by and_intros <;> first | assumption | simp [freeL, free, fr3]) (fun y0 r h => ok_ast_every_api_Type_1 F y0 _ _ _ _ fr3 hφ3 r h) _ hx3) (by simp [-splice, f0, f7, f19, b_b1]) rfl rfl (by simp [-splice, f0, f7, f19, b_b1]) (.cons (.free (freeL_encs fr26 _)) (.cons (.fn .nil (.cons (view_blk b_b1 (by simp) (by simp [freeL, free, fr3])) (.nil))) (.nil))) (.inr rfl) (fun t' ht' => ?_)
      subst ht'
      refine evY_sound (f := 3) ?_; simp [-splice, f0, f7, f19, b_b1]
      exact Stk.ln 0 (by decide) (hJ1 _ _ _ ⟨(!x3), h, by simp [-splice, f0, f7, f19, b_b1]⟩)
    · rw [hb1] at f19
      replace h := cF hb1 h
      refine evY_sound (f := 6) ?_; simp [-splice, f0, f7, f19, b_b1]
      exact Stk.ln 0 (by decide) (hJ1 _ _ _ ⟨false, h, by simp [-splice, f0, f7, f19, b_b1]⟩)
  clear h f0 f7 f19 b_b1 l_b1
  rintro t H n ⟨v2, h, f24⟩
  subst hK1
  refine evY_sound (f := 3) ?_; simp [-splice, f24]
  have hq := Option.some.inj h; subst hq
  exact (hr _ _ _ (.sc (.bool v2)) ([]) (by simp [-splice, f24]) (.inr (.inr (.free (rfl))))).1
theorem okB_ast_depth_fitType (F : Nat) (ρ51 : Int → api_Type → Option Bool) (hρ51 : ∀ a0 a1 r, ρ51 a0 a1 = some r → RunF Tryz.prog T.T 51 [.sc (.int .i64 a0), .agg (c26 a1)] (.sc (.bool r))) (a0 : Int) (a1 : api_Type) (r : Bool) (h : ast_depth_fitType_B F ρ51 a0 a1 = some r) : RunF Tryz.prog T.T 51 [.sc (.int .i64 a0), .agg (c26 a1)] (.sc (.bool r)) := by
  rw [ast_depth_fitType_B] at h
  refine RunF.z Tryz.func51 rfl rfl rfl rfl rfl (fun C hr => ?_)
  refine Stk.gen (fun t H n => t 0 = .sc (.int .i64 a0) ∧ t 1 = .agg (c26 a1)) ⟨by simp, by simp⟩ ?_
  rintro t H n ⟨f0, f1⟩
  refine evY_sound (f := 2) ?_; simp [-splice, f0, f1]
  refine Stk.gen (fun t H n => t 0 = .sc (.int .i64 a0) ∧ t 1 = .agg (c26 a1)) (by and_intros <;> first | assumption | simp [-splice, f0, f1]) ?_
  clear f0 f1
  rintro t H n ⟨f0, f1⟩
  refine Stk.om (mop_box T.t26 (cs := c26 a1) (by show partOk (t 1) = true; rw [f1]; rfl) (by show cellsOf (t 1) = _; rw [f1]; rfl)) (by simp [f0, f1]) rfl (fun t' ht' => ?_)
  refine Stk.gen (fun t H n => ∃ b1, t 0 = .sc (.int .i64 a0) ∧ t 3 = .own b1 0 ∧ H b1 = some (.cells (c26 a1) 26) ∧ b1 < n) ⟨n, by simp [ht', f0], by simp [ht'], upd_same _ _ _, Nat.lt_succ_self _⟩ ?_
  clear f0 f1 ht' t'
  rintro t H n ⟨b1, f0, f3, b_b1, l_b1⟩
  refine evY_sound (f := 8) ?_; simp [-splice, f0, f3, b_b1]
  refine Stk.cond (decide (a0 < 1)) (by simp [-splice, f0, f3, b_b1]) (fun hb2 => ?_) (fun hb2 => ?_)
  ·have h := cT hb2 h
   refine evY_sound (f := 5) ?_; simp [-splice, f0, f3, b_b1]
   have hq := Option.some.inj h; subst hq
   exact (hr _ _ _ (.sc (.bool false)) ([]) (by simp [-splice, f0, f3, b_b1]) (.inr (.inr (.free (rfl))))).1
  ·have h := cF hb2 h
   refine evY_sound (f := 14) ?_; simp [-splice, f0, f3, b_b1, ld_26_0_3]
   obtain ⟨K1, hK1, h⟩ := jnd h
   refine Stk.jn (fun t H n => ∃ v3 : Bool, K1 v3 = some r ∧ t 0 = .sc (.int .i64 a0) ∧ t 3 = .own b1 0 ∧ t 8 = .sc (.int .i64 a1.Kind) ∧ t 9 = .sc (.bool v3) ∧ H b1 = some (.cells (c26 a1) 26) ∧ b1 < n) trivial (fun J1 hJ1 => ?_) ?_
   · skip
     refine Stk.cond (a1.Kind == 0) (by simp [-splice, f0, f3, b_b1, ld_26_0_3]) (fun hb4 => ?_) (fun hb4 => ?_)
     ·have h := cT hb4 h
      refine evY_sound (f := 1) ?_; simp [-splice, f0, f3, b_b1, ld_26_0_3]
      exact Stk.ln 0 (by decide) (hJ1 _ _ _ ⟨(a1.Kind == 0), h, by and_intros <;> first | assumption | simp [-splice, f0, f3, b_b1, ld_26_0_3]⟩)
     ·have h := cF hb4 h
      refine evY_sound (f := 4) ?_; simp [-splice, f0, f3, b_b1, ld_26_0_3]
      exact Stk.ln 0 (by decide) (hJ1 _ _ _ ⟨(a1.Kind == 1), h, by and_intros <;> first | assumption | simp [-splice, f0, f3, b_b1, ld_26_0_3]⟩)
   clear h f0 f3 b_b1 l_b1
   rintro t H n ⟨v3, h, f0, f3, f8, f9, b_b1, l_b1⟩
   subst hK1
   refine Stk.cond v3 (by simp [-splice, f0, f3, f8, f9, b_b1]) (fun hb5 => ?_) (fun hb5 => ?_)
   ·have h := cT hb5 h
    refine evY_sound (f := 6) ?_; simp [-splice, f0, f3, f8, f9, b_b1, ld_26_1_9]
    refine Stk.gd 5 15 20 (fun z => .sc (.bool (z && ((a1.Parts.length : Int) == 0)))) (w := (a1.Name.toList == (⟨#[]⟩ : ByteArray).toList)) (by simp [-splice, f0, f3, f8, f9, b_b1, ld_26_1_9]) (by simp [-splice, f0, f3, f8, f9, b_b1, ld_26_1_9, ld_26_2_24]) (by simp [-splice, f0, f3, f8, f9, b_b1, ld_26_1_9, ld_26_2_24]) ?_; simp [-splice, f0, f3, f8, f9, b_b1, ld_26_1_9]
    refine evY_sound (f := 3) ?_; simp [-splice, f0, f3, f8, f9, b_b1, ld_26_1_9]
    have hq := Option.some.inj h; subst hq
    exact (hr _ _ _ (.sc (.bool ((a1.Name.toList == (⟨#[]⟩ : ByteArray).toList) && ((a1.Parts.length : Int) == 0)))) ([]) (by simp [-splice, f0, f3, f8, f9, b_b1, ld_26_1_9]) (.inr (.inr (.free (rfl))))).1
   ·have h := cF hb5 h
    refine evY_sound (f := 5) ?_; simp [-splice, f0, f3, f8, f9, b_b1]
    refine Stk.cond (a1.Kind == 2) (by simp [-splice, f0, f3, f8, f9, b_b1]) (fun hb6 => ?_) (fun hb6 => ?_)
    ·have h := cT hb6 h
     obtain ⟨x7, hx7, h⟩ := bnd h
     refine evY_sound (f := 4) ?_; simp [-splice, f0, f3, f8, f9, b_b1, ld_26_1_9]
     refine Stk.cv (g := 102) (args := [.sc (.string a1.Name)]) (args' := [.sc (.string a1.Name)]) (v := .sc (.bool x7)) [] (ok_ast_declared F _ _ hx7) (by simp [-splice, f0, f3, f8, f9, b_b1, ld_26_1_9]) rfl rfl (by simp [-splice, f0, f3, f8, f9, b_b1, ld_26_1_9]) (.cons (.free (rfl)) (.nil)) (.inl ⟨rfl, rfl⟩) (fun t' ht' => ?_)
     subst ht'
     refine evY_sound (f := 1) ?_; simp [-splice, f0, f3, f8, f9, b_b1, ld_26_1_9]
     refine Stk.gd 5 26 31 (fun z => .sc (.bool (z && ((a1.Parts.length : Int) == 0)))) (w := x7) (by simp [-splice, f0, f3, f8, f9, b_b1, ld_26_1_9]) (by simp [-splice, f0, f3, f8, f9, b_b1, ld_26_1_9, ld_26_2_24]) (by simp [-splice, f0, f3, f8, f9, b_b1, ld_26_1_9, ld_26_2_24]) ?_; simp [-splice, f0, f3, f8, f9, b_b1, ld_26_1_9]
     refine evY_sound (f := 3) ?_; simp [-splice, f0, f3, f8, f9, b_b1, ld_26_1_9]
     have hq := Option.some.inj h; subst hq
     exact (hr _ _ _ (.sc (.bool (x7 && ((a1.Parts.length : Int) == 0)))) ([]) (by simp [-splice, f0, f3, f8, f9, b_b1, ld_26_1_9]) (.inr (.inr (.free (rfl))))).1
    ·have h := cF hb6 h
     refine evY_sound (f := 5) ?_; simp [-splice, f0, f3, f8, f9, b_b1]
     refine Stk.cond (a1.Kind == 3) (by simp [-splice, f0, f3, f8, f9, b_b1]) (fun hb8 => ?_) (fun hb8 => ?_)
     ·have h := cT hb8 h
      refine evY_sound (f := 6) ?_; simp [-splice, f0, f3, f8, f9, b_b1, ld_26_1_9]
      refine Stk.gen (fun t H n => t 0 = .sc (.int .i64 a0) ∧ t 3 = .own b1 0 ∧ t 37 = .sc (.bool (a1.Name.toList == (⟨#[]⟩ : ByteArray).toList)) ∧ H b1 = some (.cells (c26 a1) 26) ∧ b1 < n) (by and_intros <;> first | assumption | simp [-splice, f0, f3, f8, f9, b_b1, ld_26_1_9]) ?_
      clear f0 f3 f8 f9 b_b1 l_b1
      rintro t H n ⟨f0, f3, f37, b_b1, l_b1⟩
      obtain ⟨K2, hK2, h⟩ := jnd h
      refine Stk.jo 7 (fun t H n => ∃ v9 : Bool, K2 v9 = some r ∧ t 44 = .sc (.bool v9)) (fun J2 hJ2 => ?_) ?_
      · rcases Bool.eq_false_or_eq_true (a1.Name.toList == (⟨#[]⟩ : ByteArray).toList) with hb2 | hb2
        · rw [hb2] at f37
          replace h := cT hb2 h
          obtain ⟨x10, hx10, h⟩ := bnd h
          refine evY_sound (f := 5) ?_; simp [-splice, f0, f3, f37, b_b1, ld_26_2_24]
          refine Stk.cv (g := 129) (args := [.ssl (encs c26 a1.Parts) a1.Parts.length false, .sc (.int .i64 2), .sc (.int .i64 6), .fn (.func 51) [.sc (.int .i64 (IntKind.i64.wrap (a0 - 1)))] []]) (args' := [.ssl (encs c26 a1.Parts) a1.Parts.length false, .sc (.int .i64 2), .sc (.int .i64 6), .fn (.func 51) [.sc (.int .i64 (IntKind.i64.wrap (a0 - 1)))] []]) (v := .sc (.bool x10)) [] (ok_ast_every_api_Type F _ _ _ _ 51 [.sc (.int .i64 (IntKind.i64.wrap (a0 - 1)))] [] (by and_intros <;> first | assumption | simp [freeL, free]) (fun y0 r h => hρ51 _ y0 r h) _ hx10) (by simp [-splice, f0, f3, f37, b_b1, ld_26_2_24]) rfl rfl (by simp [-splice, f0, f3, f37, b_b1, ld_26_2_24]) (.cons (.free (freeL_encs fr26 _)) (.cons (.free (rfl)) (.cons (.free (rfl)) (.cons (.fn (.free (by simp [freeL, free])) (.nil)) (.nil))))) (.inl ⟨rfl, rfl⟩) (fun t' ht' => ?_)
          subst ht'
          refine evY_sound (f := 2) ?_; simp [-splice, f0, f3, f37, b_b1, ld_26_2_24]
          exact Stk.ln 0 (by decide) (hJ2 _ _ _ ⟨x10, h, by simp [-splice, f0, f3, f37, b_b1, ld_26_2_24]⟩)
        · rw [hb2] at f37
          replace h := cF hb2 h
          refine evY_sound (f := 8) ?_; simp [-splice, f0, f3, f37, b_b1]
          exact Stk.ln 0 (by decide) (hJ2 _ _ _ ⟨false, h, by simp [-splice, f0, f3, f37, b_b1]⟩)
      clear h f0 f3 f37 b_b1 l_b1
      rintro t H n ⟨v9, h, f44⟩
      subst hK2
      refine evY_sound (f := 3) ?_; simp [-splice, f44]
      have hq := Option.some.inj h; subst hq
      exact (hr _ _ _ (.sc (.bool v9)) ([]) (by simp [-splice, f44]) (.inr (.inr (.free (rfl))))).1
     ·have h := cF hb8 h
      refine evY_sound (f := 7) ?_; simp [-splice, f0, f3, f8, f9, b_b1]
      have hq := Option.some.inj h; subst hq
      exact (hr _ _ _ (.sc (.bool false)) ([]) (by simp [-splice, f0, f3, f8, f9, b_b1]) (.inr (.inr (.free (rfl))))).1
theorem okG_ast_depth_fitType : ∀ F : Nat, (∀ (a0 : Int) (a1 : api_Type) (r : Bool), ast_depth_fitType F a0 a1 = some r → RunF Tryz.prog T.T 51 [.sc (.int .i64 a0), .agg (c26 a1)] (.sc (.bool r)))
  | 0 => (fun a0 a1 r h => by rw [ast_depth_fitType] at h; cases h)
  | F + 1 => (fun a0 a1 r h => okB_ast_depth_fitType F (ast_depth_fitType F) (okG_ast_depth_fitType F) a0 a1 r (by rw [ast_depth_fitType] at h; exact h))
theorem ok_ast_depth_fitType (F : Nat) (a0 : Int) (a1 : api_Type) (r : Bool) (h : ast_depth_fitType F a0 a1 = some r) : RunF Tryz.prog T.T 51 [.sc (.int .i64 a0), .agg (c26 a1)] (.sc (.bool r)) := (okG_ast_depth_fitType F) a0 a1 r h
theorem ok_ast_FitType (F : Nat) (a0 : api_Type) (r : Bool) (h : ast_FitType F a0 = some r) : RunF Tryz.prog T.T 18 [.agg (c26 a0)] (.sc (.bool r)) := by
  rw [ast_FitType] at h
  refine RunF.z Tryz.func18 rfl rfl rfl rfl rfl (fun C hr => ?_)
  refine Stk.gen (fun t H n => t 0 = .agg (c26 a0)) (by simp) ?_
  rintro t H n f0
  refine evY_sound (f := 2) ?_; simp [-splice, f0]
  refine Stk.gen (fun t H n => t 0 = .agg (c26 a0)) (by simp [-splice, f0]) ?_
  clear f0
  rintro t H n f0
  refine Stk.om (mop_box T.t26 (cs := c26 a0) (by show partOk (t 0) = true; rw [f0]; rfl) (by show cellsOf (t 0) = _; rw [f0]; rfl)) (by simp [f0]) rfl (fun t' ht' => ?_)
  refine Stk.gen (fun t H n => ∃ b1, t 1 = .own b1 0 ∧ H b1 = some (.cells (c26 a0) 26) ∧ b1 < n) ⟨n, by simp [ht'], upd_same _ _ _, Nat.lt_succ_self _⟩ ?_
  clear f0 ht' t'
  rintro t H n ⟨b1, f1, b_b1, l_b1⟩
  obtain ⟨x2, hx2, h⟩ := bnd h
  refine evY_sound (f := 5) ?_; simp [-splice, f1, b_b1, ld_26_0_26]
  refine Stk.cv (g := 51) (args := [.sc (.int .i64 64), .agg (c26 a0)]) (args' := [.sc (.int .i64 64), .agg (c26 a0)]) (v := .sc (.bool x2)) [] (ok_ast_depth_fitType F _ _ _ hx2) (by simp [-splice, f1, b_b1, ld_26_0_26]) rfl rfl (by simp [-splice, f1, b_b1, ld_26_0_26]) (.cons (.free (rfl)) (.cons (.free (fr26 _)) (.nil))) (.inl ⟨rfl, rfl⟩) (fun t' ht' => ?_)
  subst ht'
  refine evY_sound (f := 3) ?_; simp [-splice, f1, b_b1, ld_26_0_26]
  have hq := Option.some.inj h; subst hq
  exact (hr _ _ _ (.sc (.bool x2)) ([]) (by simp [-splice, f1, b_b1, ld_26_0_26]) (.inr (.inr (.free (rfl))))).1
theorem ok_ast_number (F : Nat) (a0 : Int) (r : Bool) (h : ast_number F a0 = some r) : RunF Tryz.prog T.T 125 [.sc (.int .i64 a0)] (.sc (.bool r)) := by
  rw [ast_number] at h
  refine RunF.z Tryz.func125 rfl rfl rfl rfl rfl (fun C hr => ?_)
  refine Stk.gen (fun t H n => t 0 = .sc (.int .i64 a0)) (by simp) ?_
  rintro t H n f0
  refine evY_sound (f := 9) ?_; simp [-splice, f0]
  refine Stk.gd 3 5 8 (fun z => .sc (.bool (z && (decide ((-4611686018427387903) ≤ a0))))) (w := decide (a0 ≤ 4611686018427387903)) (by simp [-splice, f0]) (by simp [-splice, f0]) (by simp [-splice, f0]) ?_; simp [-splice, f0]
  refine evY_sound (f := 3) ?_; simp [-splice, f0]
  have hq := Option.some.inj h; subst hq
  exact (hr _ _ _ (.sc (.bool ((decide (a0 ≤ 4611686018427387903)) && (decide ((-4611686018427387903) ≤ a0))))) ([]) (by simp [-splice, f0]) (.inr (.inr (.free (rfl))))).1
theorem ok_ast_great (F : Nat) (a0 : ByteArray) (r : Bool) (h : ast_great F a0 = some r) : RunF Tryz.prog T.T 126 [.sc (.string a0)] (.sc (.bool r)) := by
  rw [ast_great] at h
  refine RunF.z Tryz.func126 rfl rfl rfl rfl rfl (fun C hr => ?_)
  refine Stk.gen (fun t H n => t 0 = .sc (.string a0)) (by simp) ?_
  rintro t H n f0
  obtain ⟨x1, hx1, h⟩ := bnd h
  refine evY_sound (f := 7) ?_; simp [-splice, f0]
  refine Stk.cv (g := 172) (args := [.sc (.string a0), .sc (.bool true)]) (args' := [.sc (.string a0), .sc (.bool true)]) (v := .sc (.bool x1)) [] (ok_lex_Named F _ _ _ hx1) (by simp [-splice, f0]) rfl rfl (by simp [-splice, f0]) (.cons (.free (rfl)) (.cons (.free (rfl)) (.nil))) (.inl ⟨rfl, rfl⟩) (fun t' ht' => ?_)
  subst ht'
  refine evY_sound (f := 3) ?_; simp [-splice, f0]
  have hq := Option.some.inj h; subst hq
  exact (hr _ _ _ (.sc (.bool x1)) ([]) (by simp [-splice, f0]) (.inr (.inr (.free (rfl))))).1
theorem ok_ast_called (F : Nat) (a0 : ByteArray) (r : Bool) (h : ast_called F a0 = some r) : RunF Tryz.prog T.T 107 [.sc (.string a0)] (.sc (.bool r)) := by
  rw [ast_called] at h
  refine RunF.z Tryz.func107 rfl rfl rfl rfl rfl (fun C hr => ?_)
  refine Stk.gen (fun t H n => t 0 = .sc (.string a0)) (by simp) ?_
  rintro t H n f0
  refine evY_sound (f := 16) ?_; simp [-splice, f0]
  obtain ⟨K1, hK1, h⟩ := jnd h
  refine Stk.jn (fun t H n => ∃ v1 : Bool, K1 v1 = some r ∧ t 0 = .sc (.string a0) ∧ t 4 = .sc (.bool v1)) trivial (fun J1 hJ1 => ?_) ?_
  · skip
    refine Stk.cond (a0.toList == (⟨#[105, 110, 116]⟩ : ByteArray).toList) (by simp [-splice, f0]) (fun hb2 => ?_) (fun hb2 => ?_)
    ·have h := cT hb2 h
     refine evY_sound (f := 1) ?_; simp [-splice, f0]
     exact Stk.ln 0 (by decide) (hJ1 _ _ _ ⟨(a0.toList == (⟨#[105, 110, 116]⟩ : ByteArray).toList), h, by and_intros <;> first | assumption | simp [-splice, f0]⟩)
    ·have h := cF hb2 h
     refine evY_sound (f := 5) ?_; simp [-splice, f0]
     refine Stk.cond (a0.toList == (⟨#[98, 121, 116, 101, 115]⟩ : ByteArray).toList) (by simp [-splice, f0]) (fun hb3 => ?_) (fun hb3 => ?_)
     ·have h := cT hb3 h
      refine evY_sound (f := 1) ?_; simp [-splice, f0]
      exact Stk.ln 0 (by decide) (hJ1 _ _ _ ⟨(a0.toList == (⟨#[98, 121, 116, 101, 115]⟩ : ByteArray).toList), h, by and_intros <;> first | assumption | simp [-splice, f0]⟩)
     ·have h := cF hb3 h
      refine evY_sound (f := 5) ?_; simp [-splice, f0]
      refine Stk.cond (a0.toList == (⟨#[108, 101, 110]⟩ : ByteArray).toList) (by simp [-splice, f0]) (fun hb4 => ?_) (fun hb4 => ?_)
      ·have h := cT hb4 h
       refine evY_sound (f := 1) ?_; simp [-splice, f0]
       exact Stk.ln 0 (by decide) (hJ1 _ _ _ ⟨(a0.toList == (⟨#[108, 101, 110]⟩ : ByteArray).toList), h, by and_intros <;> first | assumption | simp [-splice, f0]⟩)
      ·have h := cF hb4 h
       refine evY_sound (f := 5) ?_; simp [-splice, f0]
       refine Stk.cond (a0.toList == (⟨#[97, 116]⟩ : ByteArray).toList) (by simp [-splice, f0]) (fun hb5 => ?_) (fun hb5 => ?_)
       ·have h := cT hb5 h
        refine evY_sound (f := 1) ?_; simp [-splice, f0]
        exact Stk.ln 0 (by decide) (hJ1 _ _ _ ⟨(a0.toList == (⟨#[97, 116]⟩ : ByteArray).toList), h, by and_intros <;> first | assumption | simp [-splice, f0]⟩)
       ·have h := cF hb5 h
        refine evY_sound (f := 5) ?_; simp [-splice, f0]
        refine Stk.cond (a0.toList == (⟨#[99, 97, 116]⟩ : ByteArray).toList) (by simp [-splice, f0]) (fun hb6 => ?_) (fun hb6 => ?_)
        ·have h := cT hb6 h
         refine evY_sound (f := 1) ?_; simp [-splice, f0]
         exact Stk.ln 0 (by decide) (hJ1 _ _ _ ⟨(a0.toList == (⟨#[99, 97, 116]⟩ : ByteArray).toList), h, by and_intros <;> first | assumption | simp [-splice, f0]⟩)
        ·have h := cF hb6 h
         refine evY_sound (f := 4) ?_; simp [-splice, f0]
         exact Stk.ln 0 (by decide) (hJ1 _ _ _ ⟨(a0.toList == (⟨#[99, 117, 116]⟩ : ByteArray).toList), h, by and_intros <;> first | assumption | simp [-splice, f0]⟩)
  clear h f0
  rintro t H n ⟨v1, h, f0, f4⟩
  subst hK1
  refine Stk.cond v1 (by simp [-splice, f0, f4]) (fun hb7 => ?_) (fun hb7 => ?_)
  ·have h := cT hb7 h
   refine evY_sound (f := 5) ?_; simp [-splice, f0, f4]
   have hq := Option.some.inj h; subst hq
   exact (hr _ _ _ (.sc (.bool false)) ([]) (by simp [-splice, f0, f4]) (.inr (.inr (.free (rfl))))).1
  ·have h := cF hb7 h
   obtain ⟨x8, hx8, h⟩ := bnd h
   refine evY_sound (f := 5) ?_; simp [-splice, f0, f4]
   refine Stk.cv (g := 112) (args := [.sc (.string a0)]) (args' := [.sc (.string a0)]) (v := .sc (.bool x8)) [] (ok_ast_small F _ _ hx8) (by simp [-splice, f0, f4]) rfl rfl (by simp [-splice, f0, f4]) (.cons (.free (rfl)) (.nil)) (.inl ⟨rfl, rfl⟩) (fun t' ht' => ?_)
   subst ht'
   refine evY_sound (f := 3) ?_; simp [-splice, f0, f4]
   have hq := Option.some.inj h; subst hq
   exact (hr _ _ _ (.sc (.bool x8)) ([]) (by simp [-splice, f0, f4]) (.inr (.inr (.free (rfl))))).1
theorem ok_ast_args (F : Nat) (a0 : Int) (r : Int) (h : ast_args F a0 = some r) : RunF Tryz.prog T.T 176 [.sc (.int .i64 a0)] (.sc (.int .i64 r)) := by
  rw [ast_args] at h
  refine RunF.z Tryz.func176 rfl rfl rfl rfl rfl (fun C hr => ?_)
  refine Stk.gen (fun t H n => t 0 = .sc (.int .i64 a0)) (by simp) ?_
  rintro t H n f0
  refine evY_sound (f := 15) ?_; simp [-splice, f0]
  refine Stk.cond (a0 == 8) (by simp [-splice, f0]) (fun hb1 => ?_) (fun hb1 => ?_)
  ·have h := cT hb1 h
   refine evY_sound (f := 5) ?_; simp [-splice, f0]
   have hq := Option.some.inj h; subst hq
   exact (hr _ _ _ (.sc (.int .i64 1)) ([]) (by simp [-splice, f0]) (.inr (.inr (.free (rfl))))).1
  ·have h := cF hb1 h
   refine evY_sound (f := 5) ?_; simp [-splice, f0]
   refine Stk.cond (a0 == 11) (by simp [-splice, f0]) (fun hb2 => ?_) (fun hb2 => ?_)
   ·have h := cT hb2 h
    refine evY_sound (f := 5) ?_; simp [-splice, f0]
    have hq := Option.some.inj h; subst hq
    exact (hr _ _ _ (.sc (.int .i64 3)) ([]) (by simp [-splice, f0]) (.inr (.inr (.free (rfl))))).1
   ·have h := cF hb2 h
    refine evY_sound (f := 7) ?_; simp [-splice, f0]
    have hq := Option.some.inj h; subst hq
    exact (hr _ _ _ (.sc (.int .i64 2)) ([]) (by simp [-splice, f0]) (.inr (.inr (.free (rfl))))).1
end Go.Proofs.YtappiofmkoelnaaGreatDoor.M
end
