/-
  For AstSame: texts of the road to it, 12 of 16.
-/
import Derived.Test.YtappiofmkoelnaaGreatDoorKAstSame10
import Derived.Test.YtappiofmkoelnaaGreatDoorRows
import Derived.Lib.LaidU8T
import Derived.PinnedBridge
section
namespace Go.Proofs.YtappiofmkoelnaaGreatDoorW.Ah
open Go.Lib Go.Shelf Go.RowKit Go.Proofs.YtappiofmkoelnaaGreatDoor
set_option linter.unusedVariables false
set_option linter.unusedSimpArgs false
theorem Ext.below {E : Env} {w' : World} (hb : Below E.w.heap.size E.w w') : Ext E { E with w := w' } :=
 ⟨rfl, Nat.le_refl _, hb.os, hb.tape, hb.output, hb.size, fun b hlt _ => hb.block b hlt, fun _ _ _ h => h, fun j l h => .inr ⟨j, l, h, rfl⟩, fun b r hr => ⟨r, (hb.block b (lt_of_block hr)).trans hr⟩⟩
theorem Ret.below {P : Program} {E : Env} {H : Nat → Option Blk} {n : Nat} {w' : World} {r : AV} {v : Value} (hH : RepH P E H) (hX : Xb E) (hN : E.N = n) (hb : Below E.w.heap.size E.w w') (hr : RepV { E with w := w' } r v) : Ret P E r H n (.returned v) w' := by
 have hx := Ext.below hb
 refine ⟨{ E with w := w' }, v, rfl, rfl, hx, ⟨fun i blk hi => ?_, fun i l hl => ?_, hH.inj, hH.glob.ext hx⟩, fun b hb' => Nat.lt_of_lt_of_le (hX b hb') hb.size, hN, hr⟩
 ·obtain ⟨l, hl, hr⟩ := hH.own i blk hi
  exact ⟨l, hl, RepB.ext hx (hb.block _ (hH.lt i l hl).2.1) hr⟩
 ·obtain ⟨h1, h2, h3, h4⟩ := hH.lt i l hl
  exact ⟨h1, Nat.lt_of_lt_of_le h2 hb.size, h3, h4⟩
theorem u8X : U8Extra Tryz.prog lays196_ren := ⟨by kernel_rfl, by kernel_rfl, by kernel_rfl, by kernel_rfl, by kernel_rfl, by kernel_rfl, by kernel_rfl⟩
theorem tabs_of {E : Env} (h : GlobOk E) : Utf8Tabs (lays196_ren.g 3) (lays196_ren.g 4) E.w := by
 refine ⟨fun c hc => ?_, fun i hi => ?_⟩
 ·obtain ⟨_, cells, ty, fz, h1, h2⟩ := h (lays196_ren.g 3) _ (List.mem_cons_self ..)
  have := h2 c hc
  simp only [World.cell?, h1]
  simpa using this
 ·obtain ⟨_, cells, ty, fz, h1, h2⟩ := h (lays196_ren.g 4) _ (List.mem_cons_of_mem _ (List.mem_cons_self ..))
  have := h2 i hi
  simp only [World.cell?, h1]
  simpa using this
theorem gok {W : World} (h : laidMet Tryz.prog [("unicode/utf8.acceptRanges", Rows.laid_unicode_utf8_acceptRanges), ("unicode/utf8.first", Rows.laid_unicode_utf8_first)] W) : GlobOk (env0 W) := by
 have h3 : VarReads Tryz.prog W "unicode/utf8.first" firstData := by
  have := laidMet.reads h (n := "unicode/utf8.first") (d := Rows.laid_unicode_utf8_first) (by simp)
  rwa [show Rows.laid_unicode_utf8_first = firstData from Pinned.utf8First_eq] at this
 have h4 : VarReads Tryz.prog W "unicode/utf8.acceptRanges" acceptData := by
  have := laidMet.reads h (n := "unicode/utf8.acceptRanges") (d := Rows.laid_unicode_utf8_acceptRanges) (by simp)
  rwa [show (Rows.laid_unicode_utf8_acceptRanges : DataW Unit) = acceptData from by kernel_rfl] at this
 have ht := utf8Tabs_of_readsT (U8Types.of196 lays196) u8X h3 h4
 have key : ∀ {n : String} {d : DataW Unit} {g : Nat}, VarReads Tryz.prog W n d → Tryz.prog.globalNamed n = some g → ∃ cells ty fz, W.heap[g]? = some (.cells cells ty fz) := by
  intro n d g hv hg
  obtain ⟨g', t, cs, fuel, p, hg', hty, hvar, hd⟩ := hv
  rw [hg] at hg'; cases hg'
  simp only [World.var?, hg, Option.bind_some] at hvar
  split at hvar
  ·rename_i c t fr hb; exact ⟨c, t, fr, hb⟩
  ·cases hvar
 have sh : ∀ b, (env0 W).shared b := fun b => ⟨fun h => h.elim, fun i l hl => by cases hl⟩
 intro g p hm
 rcases List.mem_cons.1 hm with e | hm
 ·cases e
  obtain ⟨cells, ty, fz, hb⟩ := key h3 u8X.n3
  refine ⟨sh _, cells, ty, fz, hb, fun c hc => ?_⟩
  have := ht.1 c hc
  simp only [World.cell?, show W.heap[lays196_ren.g 3]? = _ from hb] at this
  simpa using this
 ·rcases List.mem_cons.1 hm with e | hm
  ·cases e
   obtain ⟨cells, ty, fz, hb⟩ := key h4 u8X.n4
   refine ⟨sh _, cells, ty, fz, hb, fun i hi => ?_⟩
   have := ht.2 i hi
   simp only [World.cell?, show W.heap[lays196_ren.g 4]? = _ from hb] at this
   simpa using this
  ·cases hm
theorem validString_run (s : ByteArray) (hs : s.size ≤ maxLen) : RunF Tryz.prog T.T (lays196_ren.f 196) [.sc (.string s)] (.sc (.bool (validD s.data.toList))) := by
 refine ⟨fun _ => none, 0, .sem lays196.f196 rfl (by kernel_rfl) fun E vs hH hX hN hargs hlen => ?_⟩
 obtain ⟨v, rfl⟩ : ∃ v, vs = #[v] := by
  rcases vs with ⟨l⟩
  match l, hlen with
  | [v], _ => exact ⟨v, rfl⟩
 simp only [RepL] at hargs
 have hv := RepV.sc_inv hargs.1
 subst hv
 refine (Any.utf8_ValidString lays196 s E.w (Nat.le_trans hs (by decide)) (tabs_of hH.glob)).mono fun e w' he => ?_
 obtain ⟨rfl, hb⟩ := he
 exact Ret.below hH hX hN hb (by simp [RepV])
end Go.Proofs.YtappiofmkoelnaaGreatDoorW.Ah
end
section
namespace Go.Proofs.YtappiofmkoelnaaGreatDoor.M
open Go.Proofs.YtappiofmkoelnaaGreatDoorW.Ah Go.Proofs.YtappiofmkoelnaaGreatDoor
set_option linter.unusedVariables false
set_option linter.unusedSimpArgs false
set_option maxRecDepth 8000
def R04_LightType_L0 (F : Nat) (ρ10 : AType → Int → Option Int) (a0 : AType) : Nat → Int → Int → Option Int
 | 0, _, _ => none
 | m + 1, v2, v3 =>
 bif ((decide (v3 < (a0.Parts.length : Int))) && (decide (0 ≤ v2))) then ((idx a0.Parts v3).bind fun x7 =>
 (ρ10 x7 v2).bind fun x8 =>
 R04_LightType_L0 F ρ10 a0 m x8 (IntKind.i64.wrap (v3 + 1)))
 else (some v2)
def R04_LightType_B (F : Nat) (ρ10 : AType → Int → Option Int) (a0 : AType) (a1 : Int) : Option Int :=
 R04_LightType_L0 F ρ10 a0 F (IntKind.i64.wrap ((IntKind.i64.wrap (a1 - 1)) - (if 1048576 < (a0.Name.size : Int) then 1048576 else (a0.Name.size : Int)))) 0
def R04_LightType : Nat → AType → Int → Option Int
 | 0, _, _ => none
 | F + 1, a0, a1 => R04_LightType_B F (R04_LightType F) a0 a1
def R04_LightPat_L0 (F : Nat) (ρ9 : APat → Int → Option Int) (a0 : APat) : Nat → Int → Int → Option Int
 | 0, _, _ => none
 | m + 1, v2, v3 =>
 bif ((decide (v3 < (a0.Kids.length : Int))) && (decide (0 ≤ v2))) then ((idx a0.Kids v3).bind fun x7 =>
 (ρ9 x7 v2).bind fun x8 =>
 R04_LightPat_L0 F ρ9 a0 m x8 (IntKind.i64.wrap (v3 + 1)))
 else (some v2)
def R04_LightPat_B (F : Nat) (ρ9 : APat → Int → Option Int) (a0 : APat) (a1 : Int) : Option Int :=
 R04_LightPat_L0 F ρ9 a0 F (IntKind.i64.wrap ((IntKind.i64.wrap (a1 - 1)) - (if 1048576 < (a0.Name.size : Int) then 1048576 else (a0.Name.size : Int)))) 0
def R04_LightPat : Nat → APat → Int → Option Int
 | 0, _, _ => none
 | F + 1, a0, a1 => R04_LightPat_B F (R04_LightPat F) a0 a1
def R04_Light_L1 (F : Nat) (ρ8 : AExpr → Int → Option Int) (a0 : AExpr) : Nat → Int → Int → Option Int
 | 0, _, _ => none
 | m + 1, v10, v11 =>
 bif ((decide (v11 < (a0.Arms.length : Int))) && (decide (0 ≤ v10))) then ((idx a0.Arms v11).bind fun x15 =>
 (R04_LightPat F x15.Pat v10).bind fun x16 =>
 (ρ8 x15.Body x16).bind fun x17 =>
 R04_Light_L1 F ρ8 a0 m x17 (IntKind.i64.wrap (v11 + 1)))
 else (some v10)
def R04_Light_L0 (F : Nat) (ρ8 : AExpr → Int → Option Int) (a0 : AExpr) (K1 : Int → Option Int) : Nat → Int → Int → Option Int
 | 0, _, _ => none
 | m + 1, v3, v4 =>
 bif ((decide (v4 < (a0.Kids.length : Int))) && (decide (0 ≤ v3))) then ((idx a0.Kids v4).bind fun x8 =>
 (ρ8 x8 v3).bind fun x9 =>
 R04_Light_L0 F ρ8 a0 K1 m x9 (IntKind.i64.wrap (v4 + 1)))
 else (K1 v3)
def R04_Light_B (F : Nat) (ρ8 : AExpr → Int → Option Int) (a0 : AExpr) (a1 : Int) : Option Int :=
 joinM (fun (v2 : Int) =>
 R04_Light_L1 F ρ8 a0 F v2 0) fun K1 =>
 R04_Light_L0 F ρ8 a0 K1 F (IntKind.i64.wrap ((IntKind.i64.wrap ((IntKind.i64.wrap (a1 - 1)) - (if 1048576 < (a0.Bytes.length : Int) then 1048576 else (a0.Bytes.length : Int)))) - (if 1048576 < (a0.Name.size : Int) then 1048576 else (a0.Name.size : Int)))) 0
def R04_Light : Nat → AExpr → Int → Option Int
 | 0, _, _ => none
 | F + 1, a0, a1 => R04_Light_B F (R04_Light F) a0 a1
def R04_LP_L4 (F : Nat) (a0 : AProg) : Nat → Int → Int → Option Int
 | 0, _, _ => none
 | m + 1, v39, v40 =>
 bif ((decide (v40 < (a0.Hands.length : Int))) && (decide (0 ≤ v39))) then ((idx a0.Hands v40).bind fun x44 =>
 (R04_LightType F x44.Param.Type_ (IntKind.i64.wrap ((IntKind.i64.wrap ((IntKind.i64.wrap (v39 - 1)) - (if 1048576 < (x44.Name.size : Int) then 1048576 else (x44.Name.size : Int)))) - (if 1048576 < (x44.Param.Name.size : Int) then 1048576 else (x44.Param.Name.size : Int))))).bind fun x46 =>
 (R04_Light F x44.Body x46).bind fun x47 =>
 R04_LP_L4 F a0 m x47 (IntKind.i64.wrap (v40 + 1)))
 else (some v39)
def R04_LP_L3 (F : Nat) (x27 : AFun) (K7 : Int → Option Int) : Nat → Int → Int → Option Int
 | 0, _, _ => none
 | m + 1, v32, v33 =>
 bif ((decide (v33 < (x27.Params.length : Int))) && (decide (0 ≤ v32))) then ((idx x27.Params v33).bind fun x37 =>
 (R04_LightType F x37.Type_ (IntKind.i64.wrap (v32 - (if 1048576 < (x37.Name.size : Int) then 1048576 else (x37.Name.size : Int))))).bind fun x38 =>
 R04_LP_L3 F x27 K7 m x38 (IntKind.i64.wrap (v33 + 1)))
 else (K7 v32)
def R04_LP_L2 (F : Nat) (a0 : AProg) (K5 : Int → Option Int) : Nat → Int → Int → Option Int
 | 0, _, _ => none
 | m + 1, v22, v23 =>
 bif ((decide (v23 < (a0.Funs.length : Int))) && (decide (0 ≤ v22))) then ((idx a0.Funs v23).bind fun x27 =>
 (R04_LightType F x27.Result (IntKind.i64.wrap ((IntKind.i64.wrap (v22 - 1)) - (if 1048576 < (x27.Name.size : Int) then 1048576 else (x27.Name.size : Int))))).bind fun x29 =>
 (R04_Light F x27.Body x29).bind fun x30 =>
 joinM (fun (v31 : Int) =>
 R04_LP_L2 F a0 K5 m v31 (IntKind.i64.wrap (v23 + 1))) fun K7 =>
 R04_LP_L3 F x27 K7 F x30 0)
 else (K5 v22)
def R04_LP_L1 (F : Nat) (a0 : AProg) (v6 : Int) (K3 : Int → Option Int) : Nat → Int → Int → Option Int
 | 0, _, _ => none
 | m + 1, v12, v13 =>
 (idx a0.Datas v6).bind fun x16 =>
 bif ((decide (v13 < (x16.Cons.length : Int))) && (decide (0 ≤ v12))) then ((idx a0.Datas v6).bind fun x18 =>
 (idx x18.Cons v13).bind fun x19 =>
 (R04_LightType F (AType.mk 0 x19.Name x19.Fields) v12).bind fun x20 =>
 R04_LP_L1 F a0 v6 K3 m x20 (IntKind.i64.wrap (v13 + 1)))
 else (K3 v12)
def R04_LP_L0 (F : Nat) (a0 : AProg) (K1 : Int → Option Int) : Nat → Int → Int → Option Int
 | 0, _, _ => none
 | m + 1, v5, v6 =>
 bif ((decide (v6 < (a0.Datas.length : Int))) && (decide (0 ≤ v5))) then ((idx a0.Datas v6).bind fun x10 =>
 joinM (fun (v11 : Int) =>
 R04_LP_L0 F a0 K1 m v11 (IntKind.i64.wrap (v6 + 1))) fun K3 =>
 R04_LP_L1 F a0 v6 K3 F (IntKind.i64.wrap ((IntKind.i64.wrap (v5 - 1)) - (if 1048576 < (x10.Name.size : Int) then 1048576 else (x10.Name.size : Int)))) 0)
 else (K1 v5)
def R04_LP (F : Nat) (a0 : AProg) (a1 : Int) : Option Int :=
 (R04_LightType F a0.State a1).bind fun x2 =>
 (R04_Light F a0.Init x2).bind fun x3 =>
 joinM (fun (v4 : Int) =>
 joinM (fun (v21 : Int) =>
 R04_LP_L4 F a0 F v21 0) fun K5 =>
 R04_LP_L2 F a0 K5 F v4 0) fun K1 =>
 R04_LP_L0 F a0 K1 F x3 0
def L04_light (F : Nat) (a0 : AProg) : Option Bool :=
 (R04_LP F a0 3000).bind fun x2 =>
 some (decide (0 ≤ x2))
def L04_awake (F : Nat) : Option Bool := some true
def atu_AType_L0 (F : Nat) (a0 : (List AType)) (φ1 : AType → Option AType) : Nat → List AType → Int → Option (List AType)
 | 0, _, _ => none
 | m + 1, v3, v4 =>
 bif (decide (v4 < (a0.length : Int))) then ((idx a0 v4).bind fun x9 =>
 (φ1 x9).bind fun x11 =>
 (appM 48 v3 ([x11] : List AType)).bind fun x13 =>
 atu_AType_L0 F a0 φ1 m x13 (IntKind.i64.wrap (v4 + 1)))
 else (some v3)
def atu_AType (F : Nat) (a0 : (List AType)) (φ1 : AType → Option AType) : Option (List AType) :=
 atu_AType_L0 F a0 φ1 F ([] : List AType) 0
def ast_ownType_B (F : Nat) (ρ66 : AType → Option AType) (a0 : AType) : Option AType :=
 (atu_AType F a0.Parts (fun y0 => ρ66 y0)).bind fun x3 =>
 some ({ a0 with Parts := x3 })
def ast_ownType : Nat → AType → Option AType
 | 0, _ => none
 | F + 1, a0 => ast_ownType_B F (ast_ownType F) a0
def slices_Clone_byte_byte (F : Nat) (a0 : (List Int)) : Option (List Int) :=
 appM 1 [] a0
def atu_AExpr_L0 (F : Nat) (a0 : (List AExpr)) (φ1 : AExpr → Option AExpr) : Nat → List AExpr → Int → Option (List AExpr)
 | 0, _, _ => none
 | m + 1, v3, v4 =>
 bif (decide (v4 < (a0.length : Int))) then ((idx a0 v4).bind fun x9 =>
 (φ1 x9).bind fun x11 =>
 (appM 120 v3 ([x11] : List AExpr)).bind fun x13 =>
 atu_AExpr_L0 F a0 φ1 m x13 (IntKind.i64.wrap (v4 + 1)))
 else (some v3)
def atu_AExpr (F : Nat) (a0 : (List AExpr)) (φ1 : AExpr → Option AExpr) : Option (List AExpr) :=
 atu_AExpr_L0 F a0 φ1 F ([] : List AExpr) 0
def atu_AArm_L0 (F : Nat) (a0 : (List AArm)) (φ1 : AArm → Option AArm) : Nat → List AArm → Int → Option (List AArm)
 | 0, _, _ => none
 | m + 1, v3, v4 =>
 bif (decide (v4 < (a0.length : Int))) then ((idx a0 v4).bind fun x9 =>
 (φ1 x9).bind fun x11 =>
 (appM 192 v3 ([x11] : List AArm)).bind fun x13 =>
 atu_AArm_L0 F a0 φ1 m x13 (IntKind.i64.wrap (v4 + 1)))
 else (some v3)
def atu_AArm (F : Nat) (a0 : (List AArm)) (φ1 : AArm → Option AArm) : Option (List AArm) :=
 atu_AArm_L0 F a0 φ1 F ([] : List AArm) 0
def atu_APat_L0 (F : Nat) (a0 : (List APat)) (φ1 : APat → Option APat) : Nat → List APat → Int → Option (List APat)
 | 0, _, _ => none
 | m + 1, v3, v4 =>
 bif (decide (v4 < (a0.length : Int))) then ((idx a0 v4).bind fun x9 =>
 (φ1 x9).bind fun x11 =>
 (appM 72 v3 ([x11] : List APat)).bind fun x13 =>
 atu_APat_L0 F a0 φ1 m x13 (IntKind.i64.wrap (v4 + 1)))
 else (some v3)
def atu_APat (F : Nat) (a0 : (List APat)) (φ1 : APat → Option APat) : Option (List APat) :=
 atu_APat_L0 F a0 φ1 F ([] : List APat) 0
def ast_barePat_B (F : Nat) (ρ189 : APat → Option APat) (a0 : APat) : Option APat :=
 (atu_APat F a0.Kids (fun y0 => ρ189 y0)).bind fun x3 =>
 some ({ { a0 with At := (APos.mk 0 0) } with Kids := x3 })
def ast_barePat : Nat → APat → Option APat
 | 0, _ => none
 | F + 1, a0 => ast_barePat_B F (ast_barePat F) a0
def ast_bareExpr_B (F : Nat) (ρ67 : AExpr → Option AExpr) (ρ146 : AArm → Option AArm) (a0 : AExpr) : Option AExpr :=
 (slices_Clone_byte_byte F a0.Bytes).bind fun x3 =>
 (atu_AExpr F a0.Kids (fun y0 => ρ67 y0)).bind fun x4 =>
 (atu_AArm F a0.Arms (fun y0 => ρ146 y0)).bind fun x5 =>
 some ({ { { { a0 with At := (APos.mk 0 0) } with Bytes := x3 } with Kids := x4 } with Arms := x5 })
def ast_bareArm_B (F : Nat) (ρ67 : AExpr → Option AExpr) (ρ146 : AArm → Option AArm) (a0 : AArm) : Option AArm :=
 (ast_barePat F a0.Pat).bind fun x3 =>
 (ρ67 a0.Body).bind fun x4 =>
 some (AArm.mk x3 x4)
mutual
def ast_bareExpr : Nat → AExpr → Option AExpr
 | 0, _ => none
 | F + 1, a0 => ast_bareExpr_B F (ast_bareExpr F) (ast_bareArm F) a0
def ast_bareArm : Nat → AArm → Option AArm
 | 0, _ => none
 | F + 1, a0 => ast_bareArm_B F (ast_bareExpr F) (ast_bareArm F) a0
end
def atu_AData_L0 (F : Nat) (a0 : (List AData)) (φ1 : AData → Option AData) : Nat → List AData → Int → Option (List AData)
 | 0, _, _ => none
 | m + 1, v3, v4 =>
 bif (decide (v4 < (a0.length : Int))) then ((idx a0 v4).bind fun x9 =>
 (φ1 x9).bind fun x11 =>
 (appM 56 v3 ([x11] : List AData)).bind fun x13 =>
 atu_AData_L0 F a0 φ1 m x13 (IntKind.i64.wrap (v4 + 1)))
 else (some v3)
def atu_AData (F : Nat) (a0 : (List AData)) (φ1 : AData → Option AData) : Option (List AData) :=
 atu_AData_L0 F a0 φ1 F ([] : List AData) 0
def atu_ACon_L0 (F : Nat) (a0 : (List ACon)) (φ1 : ACon → Option ACon) : Nat → List ACon → Int → Option (List ACon)
 | 0, _, _ => none
 | m + 1, v3, v4 =>
 bif (decide (v4 < (a0.length : Int))) then ((idx a0 v4).bind fun x9 =>
 (φ1 x9).bind fun x11 =>
 (appM 40 v3 ([x11] : List ACon)).bind fun x13 =>
 atu_ACon_L0 F a0 φ1 m x13 (IntKind.i64.wrap (v4 + 1)))
 else (some v3)
def atu_ACon (F : Nat) (a0 : (List ACon)) (φ1 : ACon → Option ACon) : Option (List ACon) :=
 atu_ACon_L0 F a0 φ1 F ([] : List ACon) 0
def ast_ownCon (F : Nat) (a0 : ACon) : Option ACon :=
 (atu_AType F a0.Fields (fun y0 => ast_ownType F y0)).bind fun x3 =>
 some ({ a0 with Fields := x3 })
def ast_Bare_1 (F : Nat) (a0 : AData) : Option AData :=
 (atu_ACon F a0.Cons (fun y0 => ast_ownCon F y0)).bind fun x3 =>
 some (AData.mk (APos.mk 0 0) a0.Name x3)
def atu_AFun_L0 (F : Nat) (a0 : (List AFun)) (φ1 : AFun → Option AFun) : Nat → List AFun → Int → Option (List AFun)
 | 0, _, _ => none
 | m + 1, v3, v4 =>
 bif (decide (v4 < (a0.length : Int))) then ((idx a0 v4).bind fun x9 =>
 (φ1 x9).bind fun x11 =>
 (appM 224 v3 ([x11] : List AFun)).bind fun x13 =>
 atu_AFun_L0 F a0 φ1 m x13 (IntKind.i64.wrap (v4 + 1)))
 else (some v3)
def atu_AFun (F : Nat) (a0 : (List AFun)) (φ1 : AFun → Option AFun) : Option (List AFun) :=
 atu_AFun_L0 F a0 φ1 F ([] : List AFun) 0
def atu_AParam_L0 (F : Nat) (a0 : (List AParam)) (φ1 : AParam → Option AParam) : Nat → List AParam → Int → Option (List AParam)
 | 0, _, _ => none
 | m + 1, v3, v4 =>
 bif (decide (v4 < (a0.length : Int))) then ((idx a0 v4).bind fun x9 =>
 (φ1 x9).bind fun x11 =>
 (appM 64 v3 ([x11] : List AParam)).bind fun x13 =>
 atu_AParam_L0 F a0 φ1 m x13 (IntKind.i64.wrap (v4 + 1)))
 else (some v3)
def atu_AParam (F : Nat) (a0 : (List AParam)) (φ1 : AParam → Option AParam) : Option (List AParam) :=
 atu_AParam_L0 F a0 φ1 F ([] : List AParam) 0
def ast_ownParam (F : Nat) (a0 : AParam) : Option AParam :=
 (ast_ownType F a0.Type_).bind fun x3 =>
 some ({ a0 with Type_ := x3 })
def ast_Bare_2 (F : Nat) (a0 : AFun) : Option AFun :=
 (atu_AParam F a0.Params (fun y0 => ast_ownParam F y0)).bind fun x3 =>
 (ast_ownType F a0.Result).bind fun x4 =>
 (ast_bareExpr F a0.Body).bind fun x5 =>
 some (AFun.mk (APos.mk 0 0) a0.Name x3 x4 x5)
def atu_AHand_L0 (F : Nat) (a0 : (List AHand)) (φ1 : AHand → Option AHand) : Nat → List AHand → Int → Option (List AHand)
 | 0, _, _ => none
 | m + 1, v3, v4 =>
 bif (decide (v4 < (a0.length : Int))) then ((idx a0 v4).bind fun x9 =>
 (φ1 x9).bind fun x11 =>
 (appM 224 v3 ([x11] : List AHand)).bind fun x13 =>
 atu_AHand_L0 F a0 φ1 m x13 (IntKind.i64.wrap (v4 + 1)))
 else (some v3)
def atu_AHand (F : Nat) (a0 : (List AHand)) (φ1 : AHand → Option AHand) : Option (List AHand) :=
 atu_AHand_L0 F a0 φ1 F ([] : List AHand) 0
def ast_Bare_3 (F : Nat) (a0 : AHand) : Option AHand :=
 (ast_ownParam F a0.Param).bind fun x3 =>
 (ast_bareExpr F a0.Body).bind fun x4 =>
 some (AHand.mk (APos.mk 0 0) a0.Name x3 a0.Cap x4)
def ast_Bare (F : Nat) (a0 : AProg) : Option AProg :=
 (ast_ownType F a0.State).bind fun x3 =>
 (ast_bareExpr F a0.Init).bind fun x4 =>
 (atu_AData F (({ { a0 with State := x3 } with Init := x4 }).Datas) (fun y0 => ast_Bare_1 F y0)).bind fun x5 =>
 (atu_AFun F (({ { { a0 with State := x3 } with Init := x4 } with Datas := x5 }).Funs) (fun y0 => ast_Bare_2 F y0)).bind fun x6 =>
 (atu_AHand F (({ { { { a0 with State := x3 } with Init := x4 } with Datas := x5 } with Funs := x6 }).Hands) (fun y0 => ast_Bare_3 F y0)).bind fun x7 =>
 some ({ { { { { a0 with State := x3 } with Init := x4 } with Datas := x5 } with Funs := x6 } with Hands := x7 })
def sEqType_L0 (F : Nat) (a0 : (List AType)) (a1 : (List AType)) (φ2 : AType → AType → Option Bool) : Nat → Int → Option Bool
 | 0, _ => none
 | m + 1, v2 =>
 bif (decide (v2 < (a0.length : Int))) then ((idx a0 v2).bind fun x5 =>
 (idx a1 v2).bind fun x7 =>
 (φ2 x5 x7).bind fun x9 =>
 bif (!x9) then (some false)
 else (sEqType_L0 F a0 a1 φ2 m (IntKind.i64.wrap (v2 + 1))))
 else (some true)
def sEqType (F : Nat) (a0 : (List AType)) (a1 : (List AType)) (φ2 : AType → AType → Option Bool) : Option Bool :=
 bif ((a0.length : Int) != (a1.length : Int)) then (some false)
 else (sEqType_L0 F a0 a1 φ2 F 0)
def aal_AType (F : Nat) (a0 : (List AType)) (a1 : (List AType)) (φ2 : AType → AType → Option Bool) : Option Bool :=
 (sEqType F a0 a1 φ2).bind fun x1 =>
 some x1
def ast_sameType_B (F : Nat) (ρ88 : AType → AType → Option Bool) (a0 : AType) (a1 : AType) : Option Bool :=
 joinM (fun (v3 : Bool) =>
 some v3) fun K1 =>
 bif ((a0.Kind == a1.Kind) && (a0.Name.toList == a1.Name.toList)) then ((aal_AType F a0.Parts a1.Parts (fun y0 y1 => ρ88 y0 y1)).bind fun x4 =>
 K1 x4)
 else (K1 false)
def ast_sameType : Nat → AType → AType → Option Bool
 | 0, _, _ => none
 | F + 1, a0, a1 => ast_sameType_B F (ast_sameType F) a0 a1
def sEqB_L0 (F : Nat) (a0 : (List Int)) (a1 : (List Int)) : Nat → Int → Option Bool
 | 0, _ => none
 | m + 1, v2 =>
 bif (decide (v2 < (a0.length : Int))) then ((idx a0 v2).bind fun x5 =>
 (idx a1 v2).bind fun x6 =>
 bif (x5 != x6) then (some false)
 else (sEqB_L0 F a0 a1 m (IntKind.i64.wrap (v2 + 1))))
 else (some true)
def sEqB (F : Nat) (a0 : (List Int)) (a1 : (List Int)) : Option Bool :=
 bif ((a0.length : Int) != (a1.length : Int)) then (some false)
 else (sEqB_L0 F a0 a1 F 0)
def sEqExpr_L0 (F : Nat) (a0 : (List AExpr)) (a1 : (List AExpr)) (φ2 : AExpr → AExpr → Option Bool) : Nat → Int → Option Bool
 | 0, _ => none
 | m + 1, v2 =>
 bif (decide (v2 < (a0.length : Int))) then ((idx a0 v2).bind fun x5 =>
 (idx a1 v2).bind fun x7 =>
 (φ2 x5 x7).bind fun x9 =>
 bif (!x9) then (some false)
 else (sEqExpr_L0 F a0 a1 φ2 m (IntKind.i64.wrap (v2 + 1))))
 else (some true)
def sEqExpr (F : Nat) (a0 : (List AExpr)) (a1 : (List AExpr)) (φ2 : AExpr → AExpr → Option Bool) : Option Bool :=
 bif ((a0.length : Int) != (a1.length : Int)) then (some false)
 else (sEqExpr_L0 F a0 a1 φ2 F 0)
def aal_AExpr (F : Nat) (a0 : (List AExpr)) (a1 : (List AExpr)) (φ2 : AExpr → AExpr → Option Bool) : Option Bool :=
 (sEqExpr F a0 a1 φ2).bind fun x1 =>
 some x1
def sEqArm_L0 (F : Nat) (a0 : (List AArm)) (a1 : (List AArm)) (φ2 : AArm → AArm → Option Bool) : Nat → Int → Option Bool
 | 0, _ => none
 | m + 1, v2 =>
 bif (decide (v2 < (a0.length : Int))) then ((idx a0 v2).bind fun x5 =>
 (idx a1 v2).bind fun x7 =>
 (φ2 x5 x7).bind fun x9 =>
 bif (!x9) then (some false)
 else (sEqArm_L0 F a0 a1 φ2 m (IntKind.i64.wrap (v2 + 1))))
 else (some true)
def sEqArm (F : Nat) (a0 : (List AArm)) (a1 : (List AArm)) (φ2 : AArm → AArm → Option Bool) : Option Bool :=
 bif ((a0.length : Int) != (a1.length : Int)) then (some false)
 else (sEqArm_L0 F a0 a1 φ2 F 0)
def aal_AArm (F : Nat) (a0 : (List AArm)) (a1 : (List AArm)) (φ2 : AArm → AArm → Option Bool) : Option Bool :=
 (sEqArm F a0 a1 φ2).bind fun x1 =>
 some x1
def sEqPat_L0 (F : Nat) (a0 : (List APat)) (a1 : (List APat)) (φ2 : APat → APat → Option Bool) : Nat → Int → Option Bool
 | 0, _ => none
 | m + 1, v2 =>
 bif (decide (v2 < (a0.length : Int))) then ((idx a0 v2).bind fun x5 =>
 (idx a1 v2).bind fun x7 =>
 (φ2 x5 x7).bind fun x9 =>
 bif (!x9) then (some false)
 else (sEqPat_L0 F a0 a1 φ2 m (IntKind.i64.wrap (v2 + 1))))
 else (some true)
def sEqPat (F : Nat) (a0 : (List APat)) (a1 : (List APat)) (φ2 : APat → APat → Option Bool) : Option Bool :=
 bif ((a0.length : Int) != (a1.length : Int)) then (some false)
 else (sEqPat_L0 F a0 a1 φ2 F 0)
def aal_APat (F : Nat) (a0 : (List APat)) (a1 : (List APat)) (φ2 : APat → APat → Option Bool) : Option Bool :=
 (sEqPat F a0 a1 φ2).bind fun x1 =>
 some x1
def ast_samePat_B (F : Nat) (ρ165 : APat → APat → Option Bool) (a0 : APat) (a1 : APat) : Option Bool :=
 joinM (fun (v3 : Bool) =>
 some v3) fun K1 =>
 bif (((a0.Kind == a1.Kind) && (a0.Name.toList == a1.Name.toList)) && (a0.Num == a1.Num)) then ((aal_APat F a0.Kids a1.Kids (fun y0 y1 => ρ165 y0 y1)).bind fun x4 =>
 K1 x4)
 else (K1 false)
def ast_samePat : Nat → APat → APat → Option Bool
 | 0, _, _ => none
 | F + 1, a0, a1 => ast_samePat_B F (ast_samePat F) a0 a1
def ast_SameExpr_B (F : Nat) (ρ35 : AExpr → AExpr → Option Bool) (ρ98 : AArm → AArm → Option Bool) (a0 : AExpr) (a1 : AExpr) : Option Bool :=
 joinM (fun (v3 : Bool) =>
 joinM (fun (v5 : Bool) =>
 joinM (fun (v7 : Bool) =>
 some v7) fun K3 =>
 bif v5 then ((aal_AArm F a0.Arms a1.Arms (fun y0 y1 => ρ98 y0 y1)).bind fun x8 =>
 K3 x8)
 else (K3 false)) fun K2 =>
 bif v3 then ((aal_AExpr F a0.Kids a1.Kids (fun y0 y1 => ρ35 y0 y1)).bind fun x6 =>
 K2 x6)
 else (K2 false)) fun K1 =>
 bif (((a0.Kind == a1.Kind) && (a0.Num == a1.Num)) && (a0.Name.toList == a1.Name.toList)) then ((sEqB F a0.Bytes a1.Bytes).bind fun x4 =>
 K1 x4)
 else (K1 false)
def ast_sameArm_B (F : Nat) (ρ35 : AExpr → AExpr → Option Bool) (ρ98 : AArm → AArm → Option Bool) (a0 : AArm) (a1 : AArm) : Option Bool :=
 (ast_samePat F a0.Pat a1.Pat).bind fun x3 =>
 joinM (fun (v4 : Bool) =>
 some v4) fun K1 =>
 bif x3 then ((ρ35 a0.Body a1.Body).bind fun x5 =>
 K1 x5)
 else (K1 false)
mutual
def ast_SameExpr : Nat → AExpr → AExpr → Option Bool
 | 0, _, _ => none
 | F + 1, a0, a1 => ast_SameExpr_B F (ast_SameExpr F) (ast_sameArm F) a0 a1
def ast_sameArm : Nat → AArm → AArm → Option Bool
 | 0, _, _ => none
 | F + 1, a0, a1 => ast_sameArm_B F (ast_SameExpr F) (ast_sameArm F) a0 a1
end
def sEqData_L0 (F : Nat) (a0 : (List AData)) (a1 : (List AData)) (φ2 : AData → AData → Option Bool) : Nat → Int → Option Bool
 | 0, _ => none
 | m + 1, v2 =>
 bif (decide (v2 < (a0.length : Int))) then ((idx a0 v2).bind fun x5 =>
 (idx a1 v2).bind fun x7 =>
 (φ2 x5 x7).bind fun x9 =>
 bif (!x9) then (some false)
 else (sEqData_L0 F a0 a1 φ2 m (IntKind.i64.wrap (v2 + 1))))
 else (some true)
def sEqData (F : Nat) (a0 : (List AData)) (a1 : (List AData)) (φ2 : AData → AData → Option Bool) : Option Bool :=
 bif ((a0.length : Int) != (a1.length : Int)) then (some false)
 else (sEqData_L0 F a0 a1 φ2 F 0)
def aal_AData (F : Nat) (a0 : (List AData)) (a1 : (List AData)) (φ2 : AData → AData → Option Bool) : Option Bool :=
 (sEqData F a0 a1 φ2).bind fun x1 =>
 some x1
def sEqCon_L0 (F : Nat) (a0 : (List ACon)) (a1 : (List ACon)) (φ2 : ACon → ACon → Option Bool) : Nat → Int → Option Bool
 | 0, _ => none
 | m + 1, v2 =>
 bif (decide (v2 < (a0.length : Int))) then ((idx a0 v2).bind fun x5 =>
 (idx a1 v2).bind fun x7 =>
 (φ2 x5 x7).bind fun x9 =>
 bif (!x9) then (some false)
 else (sEqCon_L0 F a0 a1 φ2 m (IntKind.i64.wrap (v2 + 1))))
 else (some true)
def sEqCon (F : Nat) (a0 : (List ACon)) (a1 : (List ACon)) (φ2 : ACon → ACon → Option Bool) : Option Bool :=
 bif ((a0.length : Int) != (a1.length : Int)) then (some false)
 else (sEqCon_L0 F a0 a1 φ2 F 0)
def aal_ACon (F : Nat) (a0 : (List ACon)) (a1 : (List ACon)) (φ2 : ACon → ACon → Option Bool) : Option Bool :=
 (sEqCon F a0 a1 φ2).bind fun x1 =>
 some x1
def ast_sameCon (F : Nat) (a0 : ACon) (a1 : ACon) : Option Bool :=
 joinM (fun (v3 : Bool) =>
 some v3) fun K1 =>
 bif (a0.Name.toList == a1.Name.toList) then ((aal_AType F a0.Fields a1.Fields (fun y0 y1 => ast_sameType F y0 y1)).bind fun x4 =>
 K1 x4)
 else (K1 false)
def ast_sameData (F : Nat) (a0 : AData) (a1 : AData) : Option Bool :=
 joinM (fun (v3 : Bool) =>
 some v3) fun K1 =>
 bif (a0.Name.toList == a1.Name.toList) then ((aal_ACon F a0.Cons a1.Cons (fun y0 y1 => ast_sameCon F y0 y1)).bind fun x4 =>
 K1 x4)
 else (K1 false)
def sEqFun_L0 (F : Nat) (a0 : (List AFun)) (a1 : (List AFun)) (φ2 : AFun → AFun → Option Bool) : Nat → Int → Option Bool
 | 0, _ => none
 | m + 1, v2 =>
 bif (decide (v2 < (a0.length : Int))) then ((idx a0 v2).bind fun x5 =>
 (idx a1 v2).bind fun x7 =>
 (φ2 x5 x7).bind fun x9 =>
 bif (!x9) then (some false)
 else (sEqFun_L0 F a0 a1 φ2 m (IntKind.i64.wrap (v2 + 1))))
 else (some true)
def sEqFun (F : Nat) (a0 : (List AFun)) (a1 : (List AFun)) (φ2 : AFun → AFun → Option Bool) : Option Bool :=
 bif ((a0.length : Int) != (a1.length : Int)) then (some false)
 else (sEqFun_L0 F a0 a1 φ2 F 0)
def aal_AFun (F : Nat) (a0 : (List AFun)) (a1 : (List AFun)) (φ2 : AFun → AFun → Option Bool) : Option Bool :=
 (sEqFun F a0 a1 φ2).bind fun x1 =>
 some x1
def sEqParam_L0 (F : Nat) (a0 : (List AParam)) (a1 : (List AParam)) (φ2 : AParam → AParam → Option Bool) : Nat → Int → Option Bool
 | 0, _ => none
 | m + 1, v2 =>
 bif (decide (v2 < (a0.length : Int))) then ((idx a0 v2).bind fun x5 =>
 (idx a1 v2).bind fun x7 =>
 (φ2 x5 x7).bind fun x9 =>
 bif (!x9) then (some false)
 else (sEqParam_L0 F a0 a1 φ2 m (IntKind.i64.wrap (v2 + 1))))
 else (some true)
def sEqParam (F : Nat) (a0 : (List AParam)) (a1 : (List AParam)) (φ2 : AParam → AParam → Option Bool) : Option Bool :=
 bif ((a0.length : Int) != (a1.length : Int)) then (some false)
 else (sEqParam_L0 F a0 a1 φ2 F 0)
def aal_AParam (F : Nat) (a0 : (List AParam)) (a1 : (List AParam)) (φ2 : AParam → AParam → Option Bool) : Option Bool :=
 (sEqParam F a0 a1 φ2).bind fun x1 =>
 some x1
def ast_sameParam (F : Nat) (a0 : AParam) (a1 : AParam) : Option Bool :=
 joinM (fun (v3 : Bool) =>
 some v3) fun K1 =>
 bif (a0.Name.toList == a1.Name.toList) then ((ast_sameType F a0.Type_ a1.Type_).bind fun x4 =>
 K1 x4)
 else (K1 false)
def ast_sameFun (F : Nat) (a0 : AFun) (a1 : AFun) : Option Bool :=
 joinM (fun (v3 : Bool) =>
 joinM (fun (v5 : Bool) =>
 joinM (fun (v7 : Bool) =>
 some v7) fun K3 =>
 bif v5 then ((ast_SameExpr F a0.Body a1.Body).bind fun x8 =>
 K3 x8)
 else (K3 false)) fun K2 =>
 bif v3 then ((ast_sameType F a0.Result a1.Result).bind fun x6 =>
 K2 x6)
 else (K2 false)) fun K1 =>
 bif (a0.Name.toList == a1.Name.toList) then ((aal_AParam F a0.Params a1.Params (fun y0 y1 => ast_sameParam F y0 y1)).bind fun x4 =>
 K1 x4)
 else (K1 false)
def sEqHand_L0 (F : Nat) (a0 : (List AHand)) (a1 : (List AHand)) (φ2 : AHand → AHand → Option Bool) : Nat → Int → Option Bool
 | 0, _ => none
 | m + 1, v2 =>
 bif (decide (v2 < (a0.length : Int))) then ((idx a0 v2).bind fun x5 =>
 (idx a1 v2).bind fun x7 =>
 (φ2 x5 x7).bind fun x9 =>
 bif (!x9) then (some false)
 else (sEqHand_L0 F a0 a1 φ2 m (IntKind.i64.wrap (v2 + 1))))
 else (some true)
def sEqHand (F : Nat) (a0 : (List AHand)) (a1 : (List AHand)) (φ2 : AHand → AHand → Option Bool) : Option Bool :=
 bif ((a0.length : Int) != (a1.length : Int)) then (some false)
 else (sEqHand_L0 F a0 a1 φ2 F 0)
def aal_AHand (F : Nat) (a0 : (List AHand)) (a1 : (List AHand)) (φ2 : AHand → AHand → Option Bool) : Option Bool :=
 (sEqHand F a0 a1 φ2).bind fun x1 =>
 some x1
def ast_sameHand (F : Nat) (a0 : AHand) (a1 : AHand) : Option Bool :=
 joinM (fun (v3 : Bool) =>
 joinM (fun (v5 : Bool) =>
 some v5) fun K2 =>
 bif v3 then ((ast_SameExpr F a0.Body a1.Body).bind fun x6 =>
 K2 x6)
 else (K2 false)) fun K1 =>
 bif ((a0.Name.toList == a1.Name.toList) && (a0.Cap == a1.Cap)) then ((ast_sameParam F a0.Param a1.Param).bind fun x4 =>
 K1 x4)
 else (K1 false)
def ast_Same (F : Nat) (a0 : AProg) (a1 : AProg) : Option Bool :=
 joinM (fun (v3 : Bool) =>
 joinM (fun (v5 : Bool) =>
 bif v5 then (some false)
 else ((aal_AData F a0.Datas a1.Datas (fun y0 y1 => ast_sameData F y0 y1)).bind fun x8 =>
 joinM (fun (v9 : Bool) =>
 joinM (fun (v11 : Bool) =>
 some v11) fun K4 =>
 bif v9 then ((aal_AHand F a0.Hands a1.Hands (fun y0 y1 => ast_sameHand F y0 y1)).bind fun x12 =>
 K4 x12)
 else (K4 false)) fun K3 =>
 bif x8 then ((aal_AFun F a0.Funs a1.Funs (fun y0 y1 => ast_sameFun F y0 y1)).bind fun x10 =>
 K3 x10)
 else (K3 false))) fun K2 =>
 bif v3 then (K2 true)
 else ((ast_SameExpr F a0.Init a1.Init).bind fun x6 =>
 K2 (!x6))) fun K1 =>
 bif (((a0.Queue != a1.Queue) || (a0.Timers != a1.Timers)) || (a0.Cap != a1.Cap)) then (K1 true)
 else ((ast_sameType F a0.State a1.State).bind fun x4 =>
 K1 (!x4))
def R04_SameType_L0 (F : Nat) (ρ84 : AType → AType → Option Bool) (a0 : AType) (a1 : AType) : Nat → Int → Option Bool
 | 0, _ => none
 | m + 1, v4 =>
 bif (decide (v4 < (a0.Parts.length : Int))) then ((idx a0.Parts v4).bind fun x7 =>
 (idx a1.Parts v4).bind fun x8 =>
 (ρ84 x7 x8).bind fun x9 =>
 bif (!x9) then (some false)
 else (R04_SameType_L0 F ρ84 a0 a1 m (IntKind.i64.wrap (v4 + 1))))
 else (some true)
def R04_SameType_B (F : Nat) (ρ84 : AType → AType → Option Bool) (a0 : AType) (a1 : AType) : Option Bool :=
 bif (((a0.Kind != a1.Kind) || (!(a0.Name.toList == a1.Name.toList))) || ((a0.Parts.length : Int) != (a1.Parts.length : Int))) then (some false)
 else (R04_SameType_L0 F ρ84 a0 a1 F 0)
def R04_SameType : Nat → AType → AType → Option Bool
 | 0, _, _ => none
 | F + 1, a0, a1 => R04_SameType_B F (R04_SameType F) a0 a1
def R04_SamePat_L0 (F : Nat) (ρ99 : APat → APat → Option Bool) (a0 : APat) (a1 : APat) : Nat → Int → Option Bool
 | 0, _ => none
 | m + 1, v4 =>
 bif (decide (v4 < (a0.Kids.length : Int))) then ((idx a0.Kids v4).bind fun x7 =>
 (idx a1.Kids v4).bind fun x8 =>
 (ρ99 x7 x8).bind fun x9 =>
 bif (!x9) then (some false)
 else (R04_SamePat_L0 F ρ99 a0 a1 m (IntKind.i64.wrap (v4 + 1))))
 else (some true)
def R04_SamePat_B (F : Nat) (ρ99 : APat → APat → Option Bool) (a0 : APat) (a1 : APat) : Option Bool :=
 bif ((((a0.Kind != a1.Kind) || (!(a0.Name.toList == a1.Name.toList))) || (a0.Num != a1.Num)) || ((a0.Kids.length : Int) != (a1.Kids.length : Int))) then (some false)
 else (R04_SamePat_L0 F ρ99 a0 a1 F 0)
def R04_SamePat : Nat → APat → APat → Option Bool
 | 0, _, _ => none
 | F + 1, a0, a1 => R04_SamePat_B F (R04_SamePat F) a0 a1
def R04_SameExpr_L1 (F : Nat) (ρ36 : AExpr → AExpr → Option Bool) (a0 : AExpr) (a1 : AExpr) : Nat → Int → Option Bool
 | 0, _ => none
 | m + 1, v11 =>
 bif (decide (v11 < (a0.Arms.length : Int))) then ((idx a0.Arms v11).bind fun x14 =>
 (idx a1.Arms v11).bind fun x15 =>
 (R04_SamePat F x14.Pat x15.Pat).bind fun x16 =>
 joinM (fun (v17 : Bool) =>
 bif v17 then (some false)
 else (R04_SameExpr_L1 F ρ36 a0 a1 m (IntKind.i64.wrap (v11 + 1)))) fun K5 =>
 bif (!x16) then (K5 true)
 else ((idx a0.Arms v11).bind fun x18 =>
 (idx a1.Arms v11).bind fun x19 =>
 (ρ36 x18.Body x19.Body).bind fun x20 =>
 K5 (!x20)))
 else (some true)
def R04_SameExpr_L0 (F : Nat) (ρ36 : AExpr → AExpr → Option Bool) (a0 : AExpr) (a1 : AExpr) (K2 : Unit → Option Bool) : Nat → Int → Option Bool
 | 0, _ => none
 | m + 1, v4 =>
 bif (decide (v4 < (a0.Kids.length : Int))) then ((idx a0.Kids v4).bind fun x7 =>
 (idx a1.Kids v4).bind fun x8 =>
 (ρ36 x7 x8).bind fun x9 =>
 bif (!x9) then (some false)
 else (R04_SameExpr_L0 F ρ36 a0 a1 K2 m (IntKind.i64.wrap (v4 + 1))))
 else (K2 ())
def R04_SameExpr_B (F : Nat) (ρ36 : AExpr → AExpr → Option Bool) (a0 : AExpr) (a1 : AExpr) : Option Bool :=
 bif ((((((a0.Kind != a1.Kind) || (a0.Num != a1.Num)) || (!((textOf a0.Bytes).toList == (textOf a1.Bytes).toList))) || (!(a0.Name.toList == a1.Name.toList))) || ((a0.Kids.length : Int) != (a1.Kids.length : Int))) || ((a0.Arms.length : Int) != (a1.Arms.length : Int))) then (some false)
 else (joinM (fun (_ : Unit) =>
 R04_SameExpr_L1 F ρ36 a0 a1 F 0) fun K2 =>
 R04_SameExpr_L0 F ρ36 a0 a1 K2 F 0)
def R04_SameExpr : Nat → AExpr → AExpr → Option Bool
 | 0, _, _ => none
 | F + 1, a0, a1 => R04_SameExpr_B F (R04_SameExpr F) a0 a1
def R04_sameData_L0 (F : Nat) (a0 : AData) (a1 : AData) : Nat → Int → Option Bool
 | 0, _ => none
 | m + 1, v4 =>
 bif (decide (v4 < (a0.Cons.length : Int))) then ((idx a0.Cons v4).bind fun x7 =>
 (idx a1.Cons v4).bind fun x9 =>
 (R04_SameType F (AType.mk 0 x7.Name x7.Fields) (AType.mk 0 x9.Name x9.Fields)).bind fun x11 =>
 bif (!x11) then (some false)
 else (R04_sameData_L0 F a0 a1 m (IntKind.i64.wrap (v4 + 1))))
 else (some true)
def R04_sameData (F : Nat) (a0 : AData) (a1 : AData) : Option Bool :=
 bif ((!(a0.Name.toList == a1.Name.toList)) || ((a0.Cons.length : Int) != (a1.Cons.length : Int))) then (some false)
 else (R04_sameData_L0 F a0 a1 F 0)
def R04_sameParam (F : Nat) (a0 : AParam) (a1 : AParam) : Option Bool :=
 joinM (fun (v3 : Bool) =>
 some v3) fun K1 =>
 bif (a0.Name.toList == a1.Name.toList) then ((R04_SameType F a0.Type_ a1.Type_).bind fun x4 =>
 K1 x4)
 else (K1 false)
def R04_sameFun_L0 (F : Nat) (a0 : AFun) (a1 : AFun) : Nat → Int → Option Bool
 | 0, _ => none
 | m + 1, v8 =>
 bif (decide (v8 < (a0.Params.length : Int))) then ((idx a0.Params v8).bind fun x11 =>
 (idx a1.Params v8).bind fun x12 =>
 (R04_sameParam F x11 x12).bind fun x13 =>
 bif (!x13) then (some false)
 else (R04_sameFun_L0 F a0 a1 m (IntKind.i64.wrap (v8 + 1))))
 else (some true)
def R04_sameFun (F : Nat) (a0 : AFun) (a1 : AFun) : Option Bool :=
 joinM (fun (v3 : Bool) =>
 joinM (fun (v5 : Bool) =>
 bif v5 then (some false)
 else (R04_sameFun_L0 F a0 a1 F 0)) fun K2 =>
 bif v3 then (K2 true)
 else ((R04_SameExpr F a0.Body a1.Body).bind fun x6 =>
 K2 (!x6))) fun K1 =>
 bif ((!(a0.Name.toList == a1.Name.toList)) || ((a0.Params.length : Int) != (a1.Params.length : Int))) then (K1 true)
 else ((R04_SameType F a0.Result a1.Result).bind fun x4 =>
 K1 (!x4))
def R04_Same_L2 (F : Nat) (a0 : AProg) (a1 : AProg) : Nat → Int → Option Bool
 | 0, _ => none
 | m + 1, v22 =>
 bif (decide (v22 < (a0.Hands.length : Int))) then ((idx a0.Hands v22).bind fun x25 =>
 (idx a1.Hands v22).bind fun x27 =>
 joinM (fun (v29 : Bool) =>
 joinM (fun (v31 : Bool) =>
 bif v31 then (some false)
 else (R04_Same_L2 F a0 a1 m (IntKind.i64.wrap (v22 + 1)))) fun K9 =>
 bif (v29 || (x25.Cap != x27.Cap)) then (K9 true)
 else ((R04_SameExpr F x25.Body x27.Body).bind fun x32 =>
 K9 (!x32))) fun K8 =>
 bif (!(x25.Name.toList == x27.Name.toList)) then (K8 true)
 else ((R04_sameParam F x25.Param x27.Param).bind fun x30 =>
 K8 (!x30)))
 else (some true)
def R04_Same_L1 (F : Nat) (a0 : AProg) (a1 : AProg) (K5 : Unit → Option Bool) : Nat → Int → Option Bool
 | 0, _ => none
 | m + 1, v15 =>
 bif (decide (v15 < (a0.Funs.length : Int))) then ((idx a0.Funs v15).bind fun x18 =>
 (idx a1.Funs v15).bind fun x19 =>
 (R04_sameFun F x18 x19).bind fun x20 =>
 bif (!x20) then (some false)
 else (R04_Same_L1 F a0 a1 K5 m (IntKind.i64.wrap (v15 + 1))))
 else (K5 ())
def R04_Same_L0 (F : Nat) (a0 : AProg) (a1 : AProg) (K3 : Unit → Option Bool) : Nat → Int → Option Bool
 | 0, _ => none
 | m + 1, v8 =>
 bif (decide (v8 < (a0.Datas.length : Int))) then ((idx a0.Datas v8).bind fun x11 =>
 (idx a1.Datas v8).bind fun x12 =>
 (R04_sameData F x11 x12).bind fun x13 =>
 bif (!x13) then (some false)
 else (R04_Same_L0 F a0 a1 K3 m (IntKind.i64.wrap (v8 + 1))))
 else (K3 ())
def R04_Same (F : Nat) (a0 : AProg) (a1 : AProg) : Option Bool :=
 joinM (fun (v3 : Bool) =>
 joinM (fun (v5 : Bool) =>
 bif v5 then (some false)
 else (joinM (fun (_ : Unit) =>
 joinM (fun (_ : Unit) =>
 R04_Same_L2 F a0 a1 F 0) fun K5 =>
 R04_Same_L1 F a0 a1 K5 F 0) fun K3 =>
 R04_Same_L0 F a0 a1 K3 F 0)) fun K2 =>
 bif (v3 || (a0.Cap != a1.Cap)) then (K2 true)
 else ((R04_SameExpr F a0.Init a1.Init).bind fun x6 =>
 K2 (!x6))) fun K1 =>
 bif ((((((a0.Datas.length : Int) != (a1.Datas.length : Int)) || ((a0.Funs.length : Int) != (a1.Funs.length : Int))) || ((a0.Hands.length : Int) != (a1.Hands.length : Int))) || (a0.Queue != a1.Queue)) || (a0.Timers != a1.Timers)) then (K1 true)
 else ((R04_SameType F a0.State a1.State).bind fun x4 =>
 K1 (!x4))
def R04_placedPat_L0 (F : Nat) (ρ154 : APat → Option Bool) (a0 : APat) : Nat → Bool → Int → Option Bool
 | 0, _, _ => none
 | m + 1, v2, v3 =>
 bif (decide (v3 < (a0.Kids.length : Int))) then (joinM (fun (v7 : Bool) =>
 R04_placedPat_L0 F ρ154 a0 m v7 (IntKind.i64.wrap (v3 + 1))) fun K2 =>
 bif v2 then (K2 true)
 else ((idx a0.Kids v3).bind fun x8 =>
 (ρ154 x8).bind fun x9 =>
 K2 x9))
 else (some v2)
def R04_placedPat_B (F : Nat) (ρ154 : APat → Option Bool) (a0 : APat) : Option Bool :=
 R04_placedPat_L0 F ρ154 a0 F (!((a0.At.Line == ((APos.mk 0 0).Line)) && ((a0.At.Col == ((APos.mk 0 0).Col))))) 0
def R04_placedPat : Nat → APat → Option Bool
 | 0, _ => none
 | F + 1, a0 => R04_placedPat_B F (R04_placedPat F) a0
def R04_placed_L1 (F : Nat) (ρ83 : AExpr → Option Bool) (a0 : AExpr) : Nat → Bool → Int → Option Bool
 | 0, _, _ => none
 | m + 1, v11, v12 =>
 bif (decide (v12 < (a0.Arms.length : Int))) then (joinM (fun (v16 : Bool) =>
 joinM (fun (v19 : Bool) =>
 R04_placed_L1 F ρ83 a0 m v19 (IntKind.i64.wrap (v12 + 1))) fun K6 =>
 bif v16 then (K6 true)
 else ((idx a0.Arms v12).bind fun x20 =>
 (R04_placedPat F x20.Pat).bind fun x21 =>
 K6 x21)) fun K5 =>
 bif v11 then (K5 true)
 else ((idx a0.Arms v12).bind fun x17 =>
 (ρ83 x17.Body).bind fun x18 =>
 K5 x18))
 else (some v11)
def R04_placed_L0 (F : Nat) (ρ83 : AExpr → Option Bool) (a0 : AExpr) (K1 : Bool → Option Bool) : Nat → Bool → Int → Option Bool
 | 0, _, _ => none
 | m + 1, v3, v4 =>
 bif (decide (v4 < (a0.Kids.length : Int))) then (joinM (fun (v8 : Bool) =>
 R04_placed_L0 F ρ83 a0 K1 m v8 (IntKind.i64.wrap (v4 + 1))) fun K3 =>
 bif v3 then (K3 true)
 else ((idx a0.Kids v4).bind fun x9 =>
 (ρ83 x9).bind fun x10 =>
 K3 x10))
 else (K1 v3)
def R04_placed_B (F : Nat) (ρ83 : AExpr → Option Bool) (a0 : AExpr) : Option Bool :=
 joinM (fun (v2 : Bool) =>
 R04_placed_L1 F ρ83 a0 F v2 0) fun K1 =>
 R04_placed_L0 F ρ83 a0 K1 F (!((a0.At.Line == ((APos.mk 0 0).Line)) && ((a0.At.Col == ((APos.mk 0 0).Col))))) 0
def R04_placed : Nat → AExpr → Option Bool
 | 0, _ => none
 | F + 1, a0 => R04_placed_B F (R04_placed F) a0
def R04_Placed_L2 (F : Nat) (a0 : AProg) : Nat → Bool → Int → Option Bool
 | 0, _, _ => none
 | m + 1, v22, v23 =>
 bif (decide (v23 < (a0.Hands.length : Int))) then (joinM (fun (v27 : Bool) =>
 joinM (fun (v29 : Bool) =>
 R04_Placed_L2 F a0 m v29 (IntKind.i64.wrap (v23 + 1))) fun K10 =>
 bif v27 then (K10 true)
 else ((idx a0.Hands v23).bind fun x30 =>
 (R04_placed F x30.Body).bind fun x31 =>
 K10 x31)) fun K9 =>
 bif v22 then (K9 true)
 else ((idx a0.Hands v23).bind fun x28 =>
 K9 (!((x28.At.Line == ((APos.mk 0 0).Line)) && ((x28.At.Col == ((APos.mk 0 0).Col)))))))
 else (some v22)
def R04_Placed_L1 (F : Nat) (a0 : AProg) (K4 : Bool → Option Bool) : Nat → Bool → Int → Option Bool
 | 0, _, _ => none
 | m + 1, v12, v13 =>
 bif (decide (v13 < (a0.Funs.length : Int))) then (joinM (fun (v17 : Bool) =>
 joinM (fun (v19 : Bool) =>
 R04_Placed_L1 F a0 K4 m v19 (IntKind.i64.wrap (v13 + 1))) fun K7 =>
 bif v17 then (K7 true)
 else ((idx a0.Funs v13).bind fun x20 =>
 (R04_placed F x20.Body).bind fun x21 =>
 K7 x21)) fun K6 =>
 bif v12 then (K6 true)
 else ((idx a0.Funs v13).bind fun x18 =>
 K6 (!((x18.At.Line == ((APos.mk 0 0).Line)) && ((x18.At.Col == ((APos.mk 0 0).Col)))))))
 else (K4 v12)
def R04_Placed_L0 (F : Nat) (a0 : AProg) (K1 : Bool → Option Bool) : Nat → Bool → Int → Option Bool
 | 0, _, _ => none
 | m + 1, v4, v5 =>
 bif (decide (v5 < (a0.Datas.length : Int))) then (joinM (fun (v9 : Bool) =>
 R04_Placed_L0 F a0 K1 m v9 (IntKind.i64.wrap (v5 + 1))) fun K3 =>
 bif v4 then (K3 true)
 else ((idx a0.Datas v5).bind fun x10 =>
 K3 (!((x10.At.Line == ((APos.mk 0 0).Line)) && ((x10.At.Col == ((APos.mk 0 0).Col)))))))
 else (K1 v4)
def R04_Placed (F : Nat) (a0 : AProg) : Option Bool :=
 (R04_placed F a0.Init).bind fun x2 =>
 joinM (fun (v3 : Bool) =>
 joinM (fun (v11 : Bool) =>
 R04_Placed_L2 F a0 F v11 0) fun K4 =>
 R04_Placed_L1 F a0 K4 F v3 0) fun K1 =>
 R04_Placed_L0 F a0 K1 F x2 0
def lex_Word (F : Nat) (a0 : ByteArray) : Option Bool :=
 bif (a0.toList == (⟨#[99, 97, 112]⟩ : ByteArray).toList) then (some true)
 else (bif (a0.toList == (⟨#[100, 111]⟩ : ByteArray).toList) then (some true)
 else (bif (a0.toList == (⟨#[101, 108, 115, 101]⟩ : ByteArray).toList) then (some true)
 else (bif (a0.toList == (⟨#[101, 110, 100]⟩ : ByteArray).toList) then (some true)
 else (bif (a0.toList == (⟨#[102, 111, 114]⟩ : ByteArray).toList) then (some true)
 else (bif (a0.toList == (⟨#[102, 117, 110]⟩ : ByteArray).toList) then (some true)
 else (bif (a0.toList == (⟨#[105, 102]⟩ : ByteArray).toList) then (some true)
 else (bif (a0.toList == (⟨#[105, 110]⟩ : ByteArray).toList) then (some true)
 else (bif (a0.toList == (⟨#[108, 101, 116]⟩ : ByteArray).toList) then (some true)
 else (bif (a0.toList == (⟨#[109, 97, 116, 99, 104]⟩ : ByteArray).toList) then (some true)
 else (bif (a0.toList == (⟨#[111, 102]⟩ : ByteArray).toList) then (some true)
 else (bif (a0.toList == (⟨#[111, 110]⟩ : ByteArray).toList) then (some true)
 else (bif (a0.toList == (⟨#[113, 117, 101, 117, 101]⟩ : ByteArray).toList) then (some true)
 else (bif (a0.toList == (⟨#[115, 116, 97, 116, 101]⟩ : ByteArray).toList) then (some true)
 else (bif (a0.toList == (⟨#[116, 104, 101, 110]⟩ : ByteArray).toList) then (some true)
 else (bif (a0.toList == (⟨#[116, 105, 109, 101, 114, 115]⟩ : ByteArray).toList) then (some true)
 else (bif (a0.toList == (⟨#[116, 121, 112, 101]⟩ : ByteArray).toList) then (some true)
 else (bif (a0.toList == (⟨#[119, 105, 116, 104]⟩ : ByteArray).toList) then (some true)
 else (some false))))))))))))))))))
def u8_ValidString (F : Nat) (a0 : ByteArray) : Option Bool := bif decide (a0.size ≤ maxLen) then some (Lib.validD a0.data.toList) else none
def u8_RuneCountInString_L0 (F : Nat) (a0 : ByteArray) : Nat → Int → Nat → Option Int
 | 0, _, _ => none
 | m + 1, v2, v3 =>
 bif decide (v3 < a0.size) then (u8_RuneCountInString_L0 F a0 m (IntKind.i64.wrap (v2 + 1)) (v3 + (Utf8.decode a0 v3).2))
 else (some v2)
def u8_RuneCountInString (F : Nat) (a0 : ByteArray) : Option Int :=
 u8_RuneCountInString_L0 F a0 F 0 0
def u8_ValidRune (F : Nat) (a0 : Int) : Option Bool :=
 bif ((decide (0 ≤ a0)) && (decide (a0 < 55296))) then (some true)
 else (bif ((decide (57343 < a0)) && (decide (a0 ≤ 1114111))) then (some true)
 else (some false))
def runes_Low (F : Nat) (a0 : Int) : Option Bool :=
 joinM (fun (v1 : Bool) =>
 some v1) fun K1 =>
 bif ((decide (97 ≤ a0)) && (decide (a0 ≤ 122))) then (K1 true)
 else (joinM (fun (v2 : Bool) =>
 K1 v2) fun K2 =>
 bif (decide (128 ≤ a0)) then ((u8_ValidRune F a0).bind fun x3 =>
 K2 x3)
 else (K2 false))
def runes_Up (F : Nat) (a0 : Int) : Option Bool :=
 some ((decide (65 ≤ a0)) && (decide (a0 ≤ 90)))
def runes_Digit (F : Nat) (a0 : Int) : Option Bool :=
 some ((decide (48 ≤ a0)) && (decide (a0 ≤ 57)))
def lex_part (F : Nat) (a0 : Int) : Option Bool :=
 (runes_Low F a0).bind fun x1 =>
 joinM (fun (v2 : Bool) =>
 joinM (fun (v4 : Bool) =>
 some (v4 || (a0 == 95))) fun K2 =>
 bif v2 then (K2 true)
 else ((runes_Digit F a0).bind fun x5 =>
 K2 x5)) fun K1 =>
 bif x1 then (K1 true)
 else ((runes_Up F a0).bind fun x3 =>
 K1 x3)
def lex_Named_L0 (F : Nat) (a0 : ByteArray) (a1 : Bool) : Nat → Nat → Option Bool
 | 0, _ => none
 | m + 1, v9 =>
 bif decide (v9 < a0.size) then ((lex_part F ((Utf8.decode a0 v9).1 : Int)).bind fun x12 =>
 joinM (fun (v13 : Bool) =>
 bif v13 then (some false)
 else (lex_Named_L0 F a0 a1 m (v9 + (Utf8.decode a0 v9).2))) fun K5 =>
 bif (!x12) then (K5 true)
 else (joinM (fun (v14 : Bool) =>
 K5 v14) fun K6 =>
 bif ((v9 : Int) == 0) then (joinM (fun (v15 : Bool) =>
 joinM (fun (v17 : Bool) =>
 K6 v17) fun K8 =>
 bif v15 then (K8 true)
 else (joinM (fun (v18 : Bool) =>
 K8 v18) fun K9 =>
 bif (!a1) then ((runes_Low F ((Utf8.decode a0 v9).1 : Int)).bind fun x19 =>
 K9 (!x19))
 else (K9 false))) fun K7 =>
 bif a1 then ((runes_Up F ((Utf8.decode a0 v9).1 : Int)).bind fun x16 =>
 K7 (!x16))
 else (K7 false))
 else (K6 false)))
 else (some true)
def lex_Named (F : Nat) (a0 : ByteArray) (a1 : Bool) : Option Bool :=
 joinM (fun (v1 : Bool) =>
 joinM (fun (v3 : Bool) =>
 joinM (fun (v5 : Bool) =>
 bif v5 then (some false)
 else (lex_Named_L0 F a0 a1 F 0)) fun K3 =>
 bif v3 then (K3 true)
 else ((u8_RuneCountInString F a0).bind fun x6 =>
 K3 (decide (24 < x6)))) fun K2 =>
 bif v1 then (K2 true)
 else ((u8_ValidString F a0).bind fun x4 =>
 K2 (!x4))) fun K1 =>
 bif (a0.toList == (⟨#[]⟩ : ByteArray).toList) then (K1 true)
 else ((lex_Word F a0).bind fun x2 =>
 K1 x2)
def ast_small (F : Nat) (a0 : ByteArray) : Option Bool :=
 (lex_Named F a0 false).bind fun x1 =>
 some x1
def ast_declared (F : Nat) (a0 : ByteArray) : Option Bool :=
 (ast_small F a0).bind fun x1 =>
 some ((x1 && (!(a0.toList == (⟨#[105, 110, 116]⟩ : ByteArray).toList))) && (!(a0.toList == (⟨#[98, 121, 116, 101, 115]⟩ : ByteArray).toList)))
def sIxType_L0 (F : Nat) (a0 : (List AType)) (φ1 : AType → Option Bool) : Nat → Int → Option Int
 | 0, _ => none
 | m + 1, v1 =>
 bif (decide (v1 < (a0.length : Int))) then ((idx a0 v1).bind fun x4 =>
 (φ1 x4).bind fun x5 =>
 bif x5 then (some v1)
 else (sIxType_L0 F a0 φ1 m (IntKind.i64.wrap (v1 + 1))))
 else (some (-1))
def sIxType (F : Nat) (a0 : (List AType)) (φ1 : AType → Option Bool) : Option Int :=
 sIxType_L0 F a0 φ1 F 0
def sCtType (F : Nat) (a0 : (List AType)) (φ1 : AType → Option Bool) : Option Bool :=
 (sIxType F a0 φ1).bind fun x1 =>
 some (decide (0 ≤ x1))
def aev_AType_1 (F : Nat) (a0 : AType) (φ1 : AType → Option Bool) : Option Bool :=
 (φ1 a0).bind fun x2 =>
 some (!x2)
def aev_AType (F : Nat) (a0 : (List AType)) (a1 : Int) (a2 : Int) (φ3 : AType → Option Bool) : Option Bool :=
 joinM (fun (v2 : Bool) =>
 some v2) fun K1 =>
 bif ((decide (a1 ≤ (a0.length : Int))) && (decide ((a0.length : Int) ≤ a2))) then ((sCtType F a0 (fun y0 => aev_AType_1 F y0 φ3)).bind fun x3 =>
 K1 (!x3))
 else (K1 false)
def ad_fitType_B (F : Nat) (ρ51 : Int → AType → Option Bool) (a0 : Int) (a1 : AType) : Option Bool :=
 bif (decide (a0 < 1)) then (some false)
 else (joinM (fun (v3 : Bool) =>
 bif v3 then (some ((a1.Name.toList == (⟨#[]⟩ : ByteArray).toList) && ((a1.Parts.length : Int) == 0)))
 else (bif (a1.Kind == 2) then ((ast_declared F a1.Name).bind fun x7 =>
 some (x7 && ((a1.Parts.length : Int) == 0)))
 else (bif (a1.Kind == 3) then (joinM (fun (v9 : Bool) =>
 some v9) fun K2 =>
 bif (a1.Name.toList == (⟨#[]⟩ : ByteArray).toList) then ((aev_AType F a1.Parts 2 6 (fun y0 => ρ51 (IntKind.i64.wrap (a0 - 1)) y0)).bind fun x10 =>
 K2 x10)
 else (K2 false))
 else (some false)))) fun K1 =>
 bif (a1.Kind == 0) then (K1 (a1.Kind == 0))
 else (K1 (a1.Kind == 1)))
def ad_fitType : Nat → Int → AType → Option Bool
 | 0, _, _ => none
 | F + 1, a0, a1 => ad_fitType_B F (ad_fitType F) a0 a1
def ast_FitType (F : Nat) (a0 : AType) : Option Bool :=
 (ad_fitType F 64 a0).bind fun x2 =>
 some x2
def ast_number (F : Nat) (a0 : Int) : Option Bool :=
 some ((decide (a0 ≤ 4611686018427387903)) && (decide ((-4611686018427387903) ≤ a0)))
def ast_great (F : Nat) (a0 : ByteArray) : Option Bool :=
 (lex_Named F a0 true).bind fun x1 =>
 some x1
def ast_called (F : Nat) (a0 : ByteArray) : Option Bool :=
 joinM (fun (v1 : Bool) =>
 bif v1 then (some false)
 else ((ast_small F a0).bind fun x8 =>
 some x8)) fun K1 =>
 bif (a0.toList == (⟨#[105, 110, 116]⟩ : ByteArray).toList) then (K1 (a0.toList == (⟨#[105, 110, 116]⟩ : ByteArray).toList))
 else (bif (a0.toList == (⟨#[98, 121, 116, 101, 115]⟩ : ByteArray).toList) then (K1 (a0.toList == (⟨#[98, 121, 116, 101, 115]⟩ : ByteArray).toList))
 else (bif (a0.toList == (⟨#[108, 101, 110]⟩ : ByteArray).toList) then (K1 (a0.toList == (⟨#[108, 101, 110]⟩ : ByteArray).toList))
 else (bif (a0.toList == (⟨#[97, 116]⟩ : ByteArray).toList) then (K1 (a0.toList == (⟨#[97, 116]⟩ : ByteArray).toList))
 else (bif (a0.toList == (⟨#[99, 97, 116]⟩ : ByteArray).toList) then (K1 (a0.toList == (⟨#[99, 97, 116]⟩ : ByteArray).toList))
 else (K1 (a0.toList == (⟨#[99, 117, 116]⟩ : ByteArray).toList))))))
def ast_args (F : Nat) (a0 : Int) : Option Int :=
 bif (a0 == 8) then (some 1)
 else (bif (a0 == 11) then (some 3)
 else (some 2))
def ast_of (F : Nat) (a0 : AExpr) : Option (ast_shape × Bool) :=
 bif (a0.Kind == 0) then ((ast_number F a0.Num).bind fun x4 =>
 some ((ast_shape.mk false true false 0 0 false), x4))
 else (bif (a0.Kind == 1) then (some ((ast_shape.mk false false true 0 0 false), decide ((a0.Bytes.length : Int) ≤ 64)))
 else (bif (a0.Kind == 2) then ((ast_small F a0.Name).bind fun x7 =>
 some ((ast_shape.mk true false false 0 0 false), (x7 || (a0.Name.toList == (⟨#[115, 116, 97, 116, 101]⟩ : ByteArray).toList))))
 else (bif (a0.Kind == 3) then ((ast_great F a0.Name).bind fun x9 =>
 some ((ast_shape.mk true false false 0 6 false), x9))
 else (bif (a0.Kind == 4) then (some ((ast_shape.mk false false false 2 6 false), true))
 else (bif (a0.Kind == 5) then ((ast_called F a0.Name).bind fun x12 =>
 some ((ast_shape.mk true false false 1 6 false), x12))
 else (bif (a0.Kind == 6) then ((ast_small F a0.Name).bind fun x14 =>
 some ((ast_shape.mk true false false 2 2 false), x14))
 else (bif (a0.Kind == 7) then (some ((ast_shape.mk false false false 3 3 false), true))
 else (bif (a0.Kind == 8) then (some ((ast_shape.mk false false false 1 1 true), true))
 else (bif (a0.Kind == 9) then ((ast_args F a0.Num).bind fun x18 =>
 some ((ast_shape.mk false true false x18 x18 false), ((decide (0 ≤ a0.Num)) && (decide (a0.Num < 12)))))
 else (bif (a0.Kind == 10) then ((ast_small F a0.Name).bind fun x20 =>
 some ((ast_shape.mk true true false 2 2 false), ((x20 && (decide (0 ≤ a0.Num))) && (decide (a0.Num ≤ 1000)))))
 else (some ((ast_shape.mk false false false 0 0 false), false))))))))))))
def sIxArm_L0 (F : Nat) (a0 : (List AArm)) (φ1 : AArm → Option Bool) : Nat → Int → Option Int
 | 0, _ => none
 | m + 1, v1 =>
 bif (decide (v1 < (a0.length : Int))) then ((idx a0 v1).bind fun x4 =>
 (φ1 x4).bind fun x5 =>
 bif x5 then (some v1)
 else (sIxArm_L0 F a0 φ1 m (IntKind.i64.wrap (v1 + 1))))
 else (some (-1))
def sIxArm (F : Nat) (a0 : (List AArm)) (φ1 : AArm → Option Bool) : Option Int :=
 sIxArm_L0 F a0 φ1 F 0
def sCtArm (F : Nat) (a0 : (List AArm)) (φ1 : AArm → Option Bool) : Option Bool :=
 (sIxArm F a0 φ1).bind fun x1 =>
 some (decide (0 ≤ x1))
def aev_AArm_1 (F : Nat) (a0 : AArm) (φ1 : AArm → Option Bool) : Option Bool :=
 (φ1 a0).bind fun x2 =>
 some (!x2)
def aev_AArm (F : Nat) (a0 : (List AArm)) (a1 : Int) (a2 : Int) (φ3 : AArm → Option Bool) : Option Bool :=
 joinM (fun (v2 : Bool) =>
 some v2) fun K1 =>
 bif ((decide (a1 ≤ (a0.length : Int))) && (decide ((a0.length : Int) ≤ a2))) then ((sCtArm F a0 (fun y0 => aev_AArm_1 F y0 φ3)).bind fun x3 =>
 K1 (!x3))
 else (K1 false)
def sIxExpr_L0 (F : Nat) (a0 : (List AExpr)) (φ1 : AExpr → Option Bool) : Nat → Int → Option Int
 | 0, _ => none
 | m + 1, v1 =>
 bif (decide (v1 < (a0.length : Int))) then ((idx a0 v1).bind fun x4 =>
 (φ1 x4).bind fun x5 =>
 bif x5 then (some v1)
 else (sIxExpr_L0 F a0 φ1 m (IntKind.i64.wrap (v1 + 1))))
 else (some (-1))
def sIxExpr (F : Nat) (a0 : (List AExpr)) (φ1 : AExpr → Option Bool) : Option Int :=
 sIxExpr_L0 F a0 φ1 F 0
def sCtExpr (F : Nat) (a0 : (List AExpr)) (φ1 : AExpr → Option Bool) : Option Bool :=
 (sIxExpr F a0 φ1).bind fun x1 =>
 some (decide (0 ≤ x1))
def aev_AExpr_1 (F : Nat) (a0 : AExpr) (φ1 : AExpr → Option Bool) : Option Bool :=
 (φ1 a0).bind fun x2 =>
 some (!x2)
def aev_AExpr (F : Nat) (a0 : (List AExpr)) (a1 : Int) (a2 : Int) (φ3 : AExpr → Option Bool) : Option Bool :=
 joinM (fun (v2 : Bool) =>
 some v2) fun K1 =>
 bif ((decide (a1 ≤ (a0.length : Int))) && (decide ((a0.length : Int) ≤ a2))) then ((sCtExpr F a0 (fun y0 => aev_AExpr_1 F y0 φ3)).bind fun x3 =>
 K1 (!x3))
 else (K1 false)
def sIxPat_L0 (F : Nat) (a0 : (List APat)) (φ1 : APat → Option Bool) : Nat → Int → Option Int
 | 0, _ => none
 | m + 1, v1 =>
 bif (decide (v1 < (a0.length : Int))) then ((idx a0 v1).bind fun x4 =>
 (φ1 x4).bind fun x5 =>
 bif x5 then (some v1)
 else (sIxPat_L0 F a0 φ1 m (IntKind.i64.wrap (v1 + 1))))
 else (some (-1))
def sIxPat (F : Nat) (a0 : (List APat)) (φ1 : APat → Option Bool) : Option Int :=
 sIxPat_L0 F a0 φ1 F 0
def sCtPat (F : Nat) (a0 : (List APat)) (φ1 : APat → Option Bool) : Option Bool :=
 (sIxPat F a0 φ1).bind fun x1 =>
 some (decide (0 ≤ x1))
def aev_APat_1 (F : Nat) (a0 : APat) (φ1 : APat → Option Bool) : Option Bool :=
 (φ1 a0).bind fun x2 =>
 some (!x2)
def aev_APat (F : Nat) (a0 : (List APat)) (a1 : Int) (a2 : Int) (φ3 : APat → Option Bool) : Option Bool :=
 joinM (fun (v2 : Bool) =>
 some v2) fun K1 =>
 bif ((decide (a1 ≤ (a0.length : Int))) && (decide ((a0.length : Int) ≤ a2))) then ((sCtPat F a0 (fun y0 => aev_APat_1 F y0 φ3)).bind fun x3 =>
 K1 (!x3))
 else (K1 false)
def ad_fitPat_B (F : Nat) (ρ49 : Int → APat → Option Bool) (a0 : Int) (a1 : APat) : Option Bool :=
 bif ((decide (a0 < 1)) || ((a1.Num != 0) && (a1.Kind != 2))) then (some false)
 else (joinM (fun (v3 : Int) (v4 : Int) (v5 : Bool) =>
 joinM (fun (v15 : Bool) =>
 some v15) fun K5 =>
 bif v5 then ((aev_APat F a1.Kids v3 v4 (fun y0 => ρ49 (IntKind.i64.wrap (a0 - 1)) y0)).bind fun x16 =>
 K5 x16)
 else (K5 false)) fun K3 =>
 bif (a1.Kind == 0) then (K3 0 0 (a1.Name.toList == (⟨#[]⟩ : ByteArray).toList))
 else (bif (a1.Kind == 1) then ((ast_small F a1.Name).bind fun x8 =>
 K3 0 0 x8)
 else (bif (a1.Kind == 2) then (joinM (fun (v10 : Bool) =>
 K3 0 0 v10) fun K4 =>
 bif (a1.Name.toList == (⟨#[]⟩ : ByteArray).toList) then ((ast_number F a1.Num).bind fun x11 =>
 K4 x11)
 else (K4 false))
 else (bif (a1.Kind == 3) then ((ast_great F a1.Name).bind fun x13 =>
 K3 0 6 x13)
 else (bif (a1.Kind == 4) then (K3 2 6 (a1.Name.toList == (⟨#[]⟩ : ByteArray).toList))
 else (some false))))))
def ad_fitPat : Nat → Int → APat → Option Bool
 | 0, _, _ => none
 | F + 1, a0, a1 => ad_fitPat_B F (ad_fitPat F) a0 a1
def ad_fitExpr_B (F : Nat) (ρ47 : Int → AExpr → Option Bool) (ρ122 : Int → AArm → Option Bool) (a0 : Int) (a1 : AExpr) : Option Bool :=
 (ast_of F a1).bind fun x2 =>
 bif (((((decide (a0 < 1)) || (!x2.2)) || ((!x2.1.named) && (!(a1.Name.toList == (⟨#[]⟩ : ByteArray).toList)))) || ((!x2.1.numbered) && (a1.Num != 0))) || ((!x2.1.bytes) && (decide (0 < (a1.Bytes.length : Int))))) then (some false)
 else (joinM (fun (v5 : Bool) =>
 bif v5 then (some false)
 else ((aev_AExpr F a1.Kids x2.1.least x2.1.top (fun y0 => ρ47 (IntKind.i64.wrap (a0 - 1)) y0)).bind fun x9 =>
 some x9)) fun K7 =>
 bif ((!x2.1.arms) && (decide (0 < (a1.Arms.length : Int)))) then (K7 true)
 else (joinM (fun (v6 : Bool) =>
 K7 v6) fun K8 =>
 bif x2.1.arms then ((aev_AArm F a1.Arms 1 32 (fun y0 => ρ122 (IntKind.i64.wrap (a0 - 1)) y0)).bind fun x7 =>
 K8 (!x7))
 else (K8 false)))
def ad_fitArm_B (F : Nat) (ρ47 : Int → AExpr → Option Bool) (ρ122 : Int → AArm → Option Bool) (a0 : Int) (a1 : AArm) : Option Bool :=
 (ad_fitPat F a0 a1.Pat).bind fun x2 =>
 joinM (fun (v3 : Bool) =>
 some v3) fun K1 =>
 bif x2 then ((ρ47 a0 a1.Body).bind fun x4 =>
 K1 x4)
 else (K1 false)
mutual
def ad_fitExpr : Nat → Int → AExpr → Option Bool
 | 0, _, _ => none
 | F + 1, a0, a1 => ad_fitExpr_B F (ad_fitExpr F) (ad_fitArm F) a0 a1
def ad_fitArm : Nat → Int → AArm → Option Bool
 | 0, _, _ => none
 | F + 1, a0, a1 => ad_fitArm_B F (ad_fitExpr F) (ad_fitArm F) a0 a1
end
def ast_FitExpr (F : Nat) (a0 : AExpr) : Option Bool :=
 (ad_fitExpr F 64 a0).bind fun x2 =>
 some x2
def sIxData_L0 (F : Nat) (a0 : (List AData)) (φ1 : AData → Option Bool) : Nat → Int → Option Int
 | 0, _ => none
 | m + 1, v1 =>
 bif (decide (v1 < (a0.length : Int))) then ((idx a0 v1).bind fun x4 =>
 (φ1 x4).bind fun x5 =>
 bif x5 then (some v1)
 else (sIxData_L0 F a0 φ1 m (IntKind.i64.wrap (v1 + 1))))
 else (some (-1))
def sIxData (F : Nat) (a0 : (List AData)) (φ1 : AData → Option Bool) : Option Int :=
 sIxData_L0 F a0 φ1 F 0
def sCtData (F : Nat) (a0 : (List AData)) (φ1 : AData → Option Bool) : Option Bool :=
 (sIxData F a0 φ1).bind fun x1 =>
 some (decide (0 ≤ x1))
def aev_AData_1 (F : Nat) (a0 : AData) (φ1 : AData → Option Bool) : Option Bool :=
 (φ1 a0).bind fun x2 =>
 some (!x2)
def aev_AData (F : Nat) (a0 : (List AData)) (a1 : Int) (a2 : Int) (φ3 : AData → Option Bool) : Option Bool :=
 joinM (fun (v2 : Bool) =>
 some v2) fun K1 =>
 bif ((decide (a1 ≤ (a0.length : Int))) && (decide ((a0.length : Int) ≤ a2))) then ((sCtData F a0 (fun y0 => aev_AData_1 F y0 φ3)).bind fun x3 =>
 K1 (!x3))
 else (K1 false)
def sIxCon_L0 (F : Nat) (a0 : (List ACon)) (φ1 : ACon → Option Bool) : Nat → Int → Option Int
 | 0, _ => none
 | m + 1, v1 =>
 bif (decide (v1 < (a0.length : Int))) then ((idx a0 v1).bind fun x4 =>
 (φ1 x4).bind fun x5 =>
 bif x5 then (some v1)
 else (sIxCon_L0 F a0 φ1 m (IntKind.i64.wrap (v1 + 1))))
 else (some (-1))
def sIxCon (F : Nat) (a0 : (List ACon)) (φ1 : ACon → Option Bool) : Option Int :=
 sIxCon_L0 F a0 φ1 F 0
def sCtCon (F : Nat) (a0 : (List ACon)) (φ1 : ACon → Option Bool) : Option Bool :=
 (sIxCon F a0 φ1).bind fun x1 =>
 some (decide (0 ≤ x1))
def aev_ACon_1 (F : Nat) (a0 : ACon) (φ1 : ACon → Option Bool) : Option Bool :=
 (φ1 a0).bind fun x2 =>
 some (!x2)
def aev_ACon (F : Nat) (a0 : (List ACon)) (a1 : Int) (a2 : Int) (φ3 : ACon → Option Bool) : Option Bool :=
 joinM (fun (v2 : Bool) =>
 some v2) fun K1 =>
 bif ((decide (a1 ≤ (a0.length : Int))) && (decide ((a0.length : Int) ≤ a2))) then ((sCtCon F a0 (fun y0 => aev_ACon_1 F y0 φ3)).bind fun x3 =>
 K1 (!x3))
 else (K1 false)
def ast_fitCon (F : Nat) (a0 : ACon) : Option Bool :=
 (ast_great F a0.Name).bind fun x2 =>
 joinM (fun (v3 : Bool) =>
 some v3) fun K1 =>
 bif x2 then ((aev_AType F a0.Fields 0 6 (fun y0 => ast_FitType F y0)).bind fun x4 =>
 K1 x4)
 else (K1 false)
def ast_fitData (F : Nat) (a0 : AData) : Option Bool :=
 (ast_declared F a0.Name).bind fun x2 =>
 joinM (fun (v3 : Bool) =>
 some v3) fun K1 =>
 bif x2 then ((aev_ACon F a0.Cons 1 16 (fun y0 => ast_fitCon F y0)).bind fun x4 =>
 K1 x4)
 else (K1 false)
def sIxFun_L0 (F : Nat) (a0 : (List AFun)) (φ1 : AFun → Option Bool) : Nat → Int → Option Int
 | 0, _ => none
 | m + 1, v1 =>
 bif (decide (v1 < (a0.length : Int))) then ((idx a0 v1).bind fun x4 =>
 (φ1 x4).bind fun x5 =>
 bif x5 then (some v1)
 else (sIxFun_L0 F a0 φ1 m (IntKind.i64.wrap (v1 + 1))))
 else (some (-1))
def sIxFun (F : Nat) (a0 : (List AFun)) (φ1 : AFun → Option Bool) : Option Int :=
 sIxFun_L0 F a0 φ1 F 0
def sCtFun (F : Nat) (a0 : (List AFun)) (φ1 : AFun → Option Bool) : Option Bool :=
 (sIxFun F a0 φ1).bind fun x1 =>
 some (decide (0 ≤ x1))
def aev_AFun_1 (F : Nat) (a0 : AFun) (φ1 : AFun → Option Bool) : Option Bool :=
 (φ1 a0).bind fun x2 =>
 some (!x2)
def aev_AFun (F : Nat) (a0 : (List AFun)) (a1 : Int) (a2 : Int) (φ3 : AFun → Option Bool) : Option Bool :=
 joinM (fun (v2 : Bool) =>
 some v2) fun K1 =>
 bif ((decide (a1 ≤ (a0.length : Int))) && (decide ((a0.length : Int) ≤ a2))) then ((sCtFun F a0 (fun y0 => aev_AFun_1 F y0 φ3)).bind fun x3 =>
 K1 (!x3))
 else (K1 false)
def sIxParam_L0 (F : Nat) (a0 : (List AParam)) (φ1 : AParam → Option Bool) : Nat → Int → Option Int
 | 0, _ => none
 | m + 1, v1 =>
 bif (decide (v1 < (a0.length : Int))) then ((idx a0 v1).bind fun x4 =>
 (φ1 x4).bind fun x5 =>
 bif x5 then (some v1)
 else (sIxParam_L0 F a0 φ1 m (IntKind.i64.wrap (v1 + 1))))
 else (some (-1))
def sIxParam (F : Nat) (a0 : (List AParam)) (φ1 : AParam → Option Bool) : Option Int :=
 sIxParam_L0 F a0 φ1 F 0
def sCtParam (F : Nat) (a0 : (List AParam)) (φ1 : AParam → Option Bool) : Option Bool :=
 (sIxParam F a0 φ1).bind fun x1 =>
 some (decide (0 ≤ x1))
def aev_AParam_1 (F : Nat) (a0 : AParam) (φ1 : AParam → Option Bool) : Option Bool :=
 (φ1 a0).bind fun x2 =>
 some (!x2)
def aev_AParam (F : Nat) (a0 : (List AParam)) (a1 : Int) (a2 : Int) (φ3 : AParam → Option Bool) : Option Bool :=
 joinM (fun (v2 : Bool) =>
 some v2) fun K1 =>
 bif ((decide (a1 ≤ (a0.length : Int))) && (decide ((a0.length : Int) ≤ a2))) then ((sCtParam F a0 (fun y0 => aev_AParam_1 F y0 φ3)).bind fun x3 =>
 K1 (!x3))
 else (K1 false)
def ast_fitParam (F : Nat) (a0 : AParam) : Option Bool :=
 (ast_small F a0.Name).bind fun x2 =>
 joinM (fun (v3 : Bool) =>
 some v3) fun K1 =>
 bif x2 then ((ast_FitType F a0.Type_).bind fun x4 =>
 K1 x4)
 else (K1 false)
def ast_fitFun (F : Nat) (a0 : AFun) : Option Bool :=
 (ast_called F a0.Name).bind fun x2 =>
 joinM (fun (v3 : Bool) =>
 joinM (fun (v5 : Bool) =>
 joinM (fun (v7 : Bool) =>
 some v7) fun K3 =>
 bif v5 then ((ast_FitExpr F a0.Body).bind fun x8 =>
 K3 x8)
 else (K3 false)) fun K2 =>
 bif v3 then ((ast_FitType F a0.Result).bind fun x6 =>
 K2 x6)
 else (K2 false)) fun K1 =>
 bif x2 then ((aev_AParam F a0.Params 1 6 (fun y0 => ast_fitParam F y0)).bind fun x4 =>
 K1 x4)
 else (K1 false)
def sIxHand_L0 (F : Nat) (a0 : (List AHand)) (φ1 : AHand → Option Bool) : Nat → Int → Option Int
 | 0, _ => none
 | m + 1, v1 =>
 bif (decide (v1 < (a0.length : Int))) then ((idx a0 v1).bind fun x4 =>
 (φ1 x4).bind fun x5 =>
 bif x5 then (some v1)
 else (sIxHand_L0 F a0 φ1 m (IntKind.i64.wrap (v1 + 1))))
 else (some (-1))
def sIxHand (F : Nat) (a0 : (List AHand)) (φ1 : AHand → Option Bool) : Option Int :=
 sIxHand_L0 F a0 φ1 F 0
def sCtHand (F : Nat) (a0 : (List AHand)) (φ1 : AHand → Option Bool) : Option Bool :=
 (sIxHand F a0 φ1).bind fun x1 =>
 some (decide (0 ≤ x1))
def aev_AHand_1 (F : Nat) (a0 : AHand) (φ1 : AHand → Option Bool) : Option Bool :=
 (φ1 a0).bind fun x2 =>
 some (!x2)
def aev_AHand (F : Nat) (a0 : (List AHand)) (a1 : Int) (a2 : Int) (φ3 : AHand → Option Bool) : Option Bool :=
 joinM (fun (v2 : Bool) =>
 some v2) fun K1 =>
 bif ((decide (a1 ≤ (a0.length : Int))) && (decide ((a0.length : Int) ≤ a2))) then ((sCtHand F a0 (fun y0 => aev_AHand_1 F y0 φ3)).bind fun x3 =>
 K1 (!x3))
 else (K1 false)
def ast_fitHand (F : Nat) (a0 : AHand) : Option Bool :=
 (ast_small F a0.Name).bind fun x2 =>
 joinM (fun (v3 : Bool) =>
 joinM (fun (v5 : Bool) =>
 some v5) fun K2 =>
 bif ((v3 && (decide (0 ≤ a0.Cap))) && (decide (a0.Cap ≤ 64))) then ((ast_FitExpr F a0.Body).bind fun x6 =>
 K2 x6)
 else (K2 false)) fun K1 =>
 bif x2 then ((ast_fitParam F a0.Param).bind fun x4 =>
 K1 x4)
 else (K1 false)
def ast_Fit (F : Nat) (a0 : AProg) : Option Bool :=
 joinM (fun (v2 : Bool) =>
 joinM (fun (v4 : Bool) =>
 bif v4 then (some false)
 else ((aev_AData F a0.Datas 0 32 (fun y0 => ast_fitData F y0)).bind fun x7 =>
 joinM (fun (v8 : Bool) =>
 joinM (fun (v10 : Bool) =>
 some v10) fun K4 =>
 bif v8 then ((aev_AHand F a0.Hands 0 16 (fun y0 => ast_fitHand F y0)).bind fun x11 =>
 K4 x11)
 else (K4 false)) fun K3 =>
 bif x7 then ((aev_AFun F a0.Funs 0 48 (fun y0 => ast_fitFun F y0)).bind fun x9 =>
 K3 x9)
 else (K3 false))) fun K2 =>
 bif v2 then (K2 true)
 else ((ast_FitExpr F a0.Init).bind fun x5 =>
 K2 (!x5))) fun K1 =>
 bif ((((((decide (a0.Queue < 1)) || (decide (32 < a0.Queue))) || (decide (a0.Timers < 0))) || (decide (32 < a0.Timers))) || (decide (a0.Cap < 0))) || (decide (256 < a0.Cap))) then (K1 true)
 else ((ast_FitType F a0.State).bind fun x3 =>
 K1 (!x3))
def L04_AstSame (F : Nat) (a0 : AProg) (a1 : AProg) (a2 : AProg) : Option Bool :=
 (L04_light F a0).bind fun x4 =>
 joinM (fun (v5 : Bool) =>
 joinM (fun (v7 : Bool) =>
 bif v7 then ((L04_awake F).bind fun x10 =>
 some x10)
 else ((ast_Bare F a0).bind fun x11 =>
 (ast_Bare F x11).bind fun x13 =>
 (ast_Same F a0 x11).bind fun x15 =>
 joinM (fun (v16 : Bool) =>
 joinM (fun (v18 : Bool) =>
 joinM (fun (v20 : Bool) =>
 joinM (fun (v22 : Bool) =>
 joinM (fun (v25 : Bool) =>
 bif v25 then (some false)
 else ((ast_Same F a0 a1).bind fun x29 =>
 joinM (fun (v30 : Bool) =>
 joinM (fun (v32 : Bool) =>
 joinM (fun (v34 : Bool) =>
 some v34) fun K10 =>
 bif v32 then ((L04_awake F).bind fun x35 =>
 K10 x35)
 else (K10 false)) fun K9 =>
 bif v30 then (K9 true)
 else ((ast_Same F a0 a2).bind fun x33 =>
 K9 x33)) fun K8 =>
 bif (!x29) then (K8 true)
 else ((ast_Same F a1 a2).bind fun x31 =>
 K8 (!x31)))) fun K7 =>
 bif v22 then (K7 true)
 else ((ast_Fit F a0).bind fun x26 =>
 (ast_Fit F x11).bind fun x27 =>
 K7 (!(x26 == x27)))) fun K6 =>
 bif v20 then (K6 true)
 else ((ast_Same F a0 a1).bind fun x23 =>
 (ast_Same F a1 a0).bind fun x24 =>
 K6 (!(x23 == x24)))) fun K5 =>
 bif v18 then (K5 true)
 else ((R04_Placed F x11).bind fun x21 =>
 K5 x21)) fun K4 =>
 bif v16 then (K4 true)
 else ((R04_Same F x11 x13).bind fun x19 =>
 K4 (!x19))) fun K3 =>
 bif (!x15) then (K3 true)
 else ((ast_Same F x11 a0).bind fun x17 =>
 K3 (!x17)))) fun K2 =>
 bif v5 then (K2 true)
 else ((L04_light F a2).bind fun x8 =>
 K2 (!x8))) fun K1 =>
 bif (!x4) then (K1 true)
 else ((L04_light F a1).bind fun x6 =>
 K1 (!x6))
end Go.Proofs.YtappiofmkoelnaaGreatDoor.M
end
section
namespace Go.Proofs.YtappiofmkoelnaaGreatDoor.M
attribute [-simp] Go.Proofs.YtappiofmkoelnaaGreatDoorW.Ah.splice
open Go.Proofs.YtappiofmkoelnaaGreatDoorW.Ah Go.Proofs.YtappiofmkoelnaaGreatDoor
set_option linter.unusedVariables false
set_option linter.unusedSimpArgs false
set_option maxRecDepth 8000
attribute [local simp] T.t3 T.t4 T.t5 T.t9 T.t22 T.t23 T.t24 T.t26 T.t29 T.t30 T.t31 T.t33 T.t34 T.t36 T.t37 T.t39 T.t68 T.t70 T.t72 T.t75 T.t77 T.t81 T.t83 T.t92 List.range List.range.loop
attribute [-simp] appendAV fillAV
theorem okB_R04_LightType (F : Nat) (ρ10 : AType → Int → Option Int) (hρ10 : ∀ a0 a1 r, ρ10 a0 a1 = some r → RunF Tryz.prog T.T 10 [.agg (c26 a0), .sc (.int .i64 a1)] (.sc (.int .i64 r))) (a0 : AType) (a1 : Int) (r : Int) (h : R04_LightType_B F ρ10 a0 a1 = some r) : RunF Tryz.prog T.T 10 [.agg (c26 a0), .sc (.int .i64 a1)] (.sc (.int .i64 r)) := by
  rw [R04_LightType_B] at h
  refine RunF.z Tryz.func10 rfl rfl rfl rfl rfl (fun C hr => ?_)
  refine gn (fun t H n => t 0 = .agg (c26 a0) ∧ t 1 = .sc (.int .i64 a1)) ⟨by simp, by simp⟩ fun t H n q => ?_
  apply eY 2; simp [q]
  refine gn (fun t H n => t 0 = .agg (c26 a0) ∧ t 1 = .sc (.int .i64 a1)) (by simp [q]) fun t H n q => ?_
  refine Stk.om (mop_box T.t26 (cs := c26 a0) (by show partOk (t 0) = true; rw [q.1]; rfl) (by show cellsOf (t 0) = _; rw [q.1]; rfl)) (by simp [q]) rfl (fun t' ht' => ?_)
  refine gn (fun t H n => ∃ b1, t 1 = .sc (.int .i64 a1) ∧ t 2 = .own b1 0 ∧ H b1 = some (.cells (c26 a0) 26) ∧ b1 < n) ⟨n, j2 (by simp [ht', q]) ⟨upd_same _ _ _, Nat.lt_succ_self _⟩⟩ fun t H n ⟨b1, q⟩ => ?_
  apply eY 19; simp [q, ld_26_1_9]
  refine gn (fun t H n => t 1 = .sc (.int .i64 (IntKind.i64.wrap ((IntKind.i64.wrap (a1 - 1)) - (if 1048576 < (a0.Name.size : Int) then 1048576 else (a0.Name.size : Int))))) ∧ t 2 = .own b1 0 ∧ t 5 = .sc (.int .i64 0) ∧ H b1 = some (.cells (c26 a0) 26) ∧ b1 < n) (by simp [q, ld_26_1_9]) fun t H n q => ?_
  refine Stk.lo (fun μ t H n => ∃ v2 : Int, ∃ v3 : Int, R04_LightType_L0 F ρ10 a0 μ v2 v3 = some r ∧ t 1 = .sc (.int .i64 v2) ∧ t 2 = .own b1 0 ∧ t 5 = .sc (.int .i64 v3) ∧ H b1 = some (.cells (c26 a0) 26) ∧ b1 < n) F ⟨(IntKind.i64.wrap ((IntKind.i64.wrap (a1 - 1)) - (if 1048576 < (a0.Name.size : Int) then 1048576 else (a0.Name.size : Int)))), 0, h, q⟩ ?_
  clear q h
  rintro J1 hJ1 μ t H n ⟨v2, v3, h, q⟩
  cases μ with
  | zero => exact absurd h (by simp [R04_LightType_L0])
  | succ μ =>
  rw [R04_LightType_L0] at h
  apply eY 9; simp [q, ld_26_2_24]
  refine Stk.gd 3 18 21 (fun z => .sc (.bool (z && (decide (0 ≤ v2))))) (w := decide (v3 < (a0.Parts.length : Int))) (by simp [q, ld_26_2_24]) (by simp [q, ld_26_2_24]) (by simp [q, ld_26_2_24]) ?_; simp [q, ld_26_2_24]
  apply eY 1; simp [q, ld_26_2_24]
  refine cd ((decide (v3 < (a0.Parts.length : Int))) && (decide (0 ≤ v2))) (by simp [q, ld_26_2_24]) (fun hb6 => ?_) (fun hb6 => ?_)
  ·have h := cT hb6 h
   obtain ⟨x7, hx7, h⟩ := bnd h
   obtain ⟨i0x7, i1x7, i2x7, _⟩ := idx_ok hx7
   have ex7_0_26 : partOf T.T 26 (encs c26 a0.Parts) (v3.toNat * 3) = some (.agg (c26 x7)) := (part_elem0 (e := c26) (z := 3) (ty := 26) T.t26 (by decide) (by decide) hx7 0 (by decide)).trans (ld_26_0_26 _)
   obtain ⟨x8, hx8, h⟩ := bnd h
   apply eY 10; simp [q, ld_26_2_24, i0x7, i1x7, pd26, ex7_0_26]
   refine cw (hρ10 _ _ _ hx8) (by simp [q, ld_26_2_24, i0x7, i1x7, pd26, ex7_0_26]) rfl rfl (by simp [q, ld_26_2_24, i0x7, i1x7, pd26, ex7_0_26]) (.cons (.free (fr26 _)) (.cons (.free (rfl)) (.nil))) rfl ?_
   rintro _ rfl
   apply eY 8; simp [q, ld_26_2_24, i0x7, i1x7, pd26, ex7_0_26]
   exact lm (hJ1 _ _ _ _ ⟨x8, (IntKind.i64.wrap (v3 + 1)), h, by simp [q, ld_26_2_24, i0x7, i1x7, pd26, ex7_0_26]⟩)
  ·have h := cF hb6 h
   refine Stk.ex rfl ?_
   apply eY 6; simp [q, ld_26_2_24]
   obtain rfl := sj h
   exact (hF hr (by simp [q, ld_26_2_24]) rfl).1
theorem okG_R04_LightType : ∀ F : Nat, (∀ (a0 : AType) (a1 : Int) (r : Int), R04_LightType F a0 a1 = some r → RunF Tryz.prog T.T 10 [.agg (c26 a0), .sc (.int .i64 a1)] (.sc (.int .i64 r)))
  | 0 => (fun a0 a1 r h => by rw [R04_LightType] at h; cases h)
  | F + 1 => (fun a0 a1 r h => okB_R04_LightType F (R04_LightType F) (okG_R04_LightType F) a0 a1 r (by rw [R04_LightType] at h; exact h))
theorem ok_R04_LightType (F : Nat) (a0 : AType) (a1 : Int) (r : Int) (h : R04_LightType F a0 a1 = some r) : RunF Tryz.prog T.T 10 [.agg (c26 a0), .sc (.int .i64 a1)] (.sc (.int .i64 r)) := (okG_R04_LightType F) a0 a1 r h
theorem okB_R04_LightPat (F : Nat) (ρ9 : APat → Int → Option Int) (hρ9 : ∀ a0 a1 r, ρ9 a0 a1 = some r → RunF Tryz.prog T.T 9 [.agg (c39 a0), .sc (.int .i64 a1)] (.sc (.int .i64 r))) (a0 : APat) (a1 : Int) (r : Int) (h : R04_LightPat_B F ρ9 a0 a1 = some r) : RunF Tryz.prog T.T 9 [.agg (c39 a0), .sc (.int .i64 a1)] (.sc (.int .i64 r)) := by
  rw [R04_LightPat_B] at h
  refine RunF.z Tryz.func9 rfl rfl rfl rfl rfl (fun C hr => ?_)
  refine gn (fun t H n => t 0 = .agg (c39 a0) ∧ t 1 = .sc (.int .i64 a1)) ⟨by simp, by simp⟩ fun t H n q => ?_
  apply eY 2; simp [q]
  refine gn (fun t H n => t 0 = .agg (c39 a0) ∧ t 1 = .sc (.int .i64 a1)) (by simp [q]) fun t H n q => ?_
  refine Stk.om (mop_box T.t39 (cs := c39 a0) (by show partOk (t 0) = true; rw [q.1]; rfl) (by show cellsOf (t 0) = _; rw [q.1]; rfl)) (by simp [q]) rfl (fun t' ht' => ?_)
  refine gn (fun t H n => ∃ b1, t 1 = .sc (.int .i64 a1) ∧ t 2 = .own b1 0 ∧ H b1 = some (.cells (c39 a0) 39) ∧ b1 < n) ⟨n, j2 (by simp [ht', q]) ⟨upd_same _ _ _, Nat.lt_succ_self _⟩⟩ fun t H n ⟨b1, q⟩ => ?_
  apply eY 19; simp [q, ld_39_3_9]
  refine gn (fun t H n => t 1 = .sc (.int .i64 (IntKind.i64.wrap ((IntKind.i64.wrap (a1 - 1)) - (if 1048576 < (a0.Name.size : Int) then 1048576 else (a0.Name.size : Int))))) ∧ t 2 = .own b1 0 ∧ t 5 = .sc (.int .i64 0) ∧ H b1 = some (.cells (c39 a0) 39) ∧ b1 < n) (by simp [q, ld_39_3_9]) fun t H n q => ?_
  refine Stk.lo (fun μ t H n => ∃ v2 : Int, ∃ v3 : Int, R04_LightPat_L0 F ρ9 a0 μ v2 v3 = some r ∧ t 1 = .sc (.int .i64 v2) ∧ t 2 = .own b1 0 ∧ t 5 = .sc (.int .i64 v3) ∧ H b1 = some (.cells (c39 a0) 39) ∧ b1 < n) F ⟨(IntKind.i64.wrap ((IntKind.i64.wrap (a1 - 1)) - (if 1048576 < (a0.Name.size : Int) then 1048576 else (a0.Name.size : Int)))), 0, h, q⟩ ?_
  clear q h
  rintro J1 hJ1 μ t H n ⟨v2, v3, h, q⟩
  cases μ with
  | zero => exact absurd h (by simp [R04_LightPat_L0])
  | succ μ =>
  rw [R04_LightPat_L0] at h
  apply eY 9; simp [q, ld_39_5_37]
  refine Stk.gd 3 18 21 (fun z => .sc (.bool (z && (decide (0 ≤ v2))))) (w := decide (v3 < (a0.Kids.length : Int))) (by simp [q, ld_39_5_37]) (by simp [q, ld_39_5_37]) (by simp [q, ld_39_5_37]) ?_; simp [q, ld_39_5_37]
  apply eY 1; simp [q, ld_39_5_37]
  refine cd ((decide (v3 < (a0.Kids.length : Int))) && (decide (0 ≤ v2))) (by simp [q, ld_39_5_37]) (fun hb6 => ?_) (fun hb6 => ?_)
  ·have h := cT hb6 h
   obtain ⟨x7, hx7, h⟩ := bnd h
   obtain ⟨i0x7, i1x7, i2x7, _⟩ := idx_ok hx7
   have ex7_0_39 : partOf T.T 39 (encs c39 a0.Kids) (v3.toNat * 6) = some (.agg (c39 x7)) := (part_elem0 (e := c39) (z := 6) (ty := 39) T.t39 (by decide) (by decide) hx7 0 (by decide)).trans (ld_39_0_39 _)
   obtain ⟨x8, hx8, h⟩ := bnd h
   apply eY 10; simp [q, ld_39_5_37, i0x7, i1x7, pd39, ex7_0_39]
   refine cw (hρ9 _ _ _ hx8) (by simp [q, ld_39_5_37, i0x7, i1x7, pd39, ex7_0_39]) rfl rfl (by simp [q, ld_39_5_37, i0x7, i1x7, pd39, ex7_0_39]) (.cons (.free (fr39 _)) (.cons (.free (rfl)) (.nil))) rfl ?_
   rintro _ rfl
   apply eY 8; simp [q, ld_39_5_37, i0x7, i1x7, pd39, ex7_0_39]
   exact lm (hJ1 _ _ _ _ ⟨x8, (IntKind.i64.wrap (v3 + 1)), h, by simp [q, ld_39_5_37, i0x7, i1x7, pd39, ex7_0_39]⟩)
  ·have h := cF hb6 h
   refine Stk.ex rfl ?_
   apply eY 6; simp [q, ld_39_5_37]
   obtain rfl := sj h
   exact (hF hr (by simp [q, ld_39_5_37]) rfl).1
theorem okG_R04_LightPat : ∀ F : Nat, (∀ (a0 : APat) (a1 : Int) (r : Int), R04_LightPat F a0 a1 = some r → RunF Tryz.prog T.T 9 [.agg (c39 a0), .sc (.int .i64 a1)] (.sc (.int .i64 r)))
  | 0 => (fun a0 a1 r h => by rw [R04_LightPat] at h; cases h)
  | F + 1 => (fun a0 a1 r h => okB_R04_LightPat F (R04_LightPat F) (okG_R04_LightPat F) a0 a1 r (by rw [R04_LightPat] at h; exact h))
theorem ok_R04_LightPat (F : Nat) (a0 : APat) (a1 : Int) (r : Int) (h : R04_LightPat F a0 a1 = some r) : RunF Tryz.prog T.T 9 [.agg (c39 a0), .sc (.int .i64 a1)] (.sc (.int .i64 r)) := (okG_R04_LightPat F) a0 a1 r h
theorem okB_R04_Light (F : Nat) (ρ8 : AExpr → Int → Option Int) (hρ8 : ∀ a0 a1 r, ρ8 a0 a1 = some r → RunF Tryz.prog T.T 8 [.agg (c33 a0), .sc (.int .i64 a1)] (.sc (.int .i64 r))) (a0 : AExpr) (a1 : Int) (r : Int) (h : R04_Light_B F ρ8 a0 a1 = some r) : RunF Tryz.prog T.T 8 [.agg (c33 a0), .sc (.int .i64 a1)] (.sc (.int .i64 r)) := by
  rw [R04_Light_B] at h
  refine RunF.z Tryz.func8 rfl rfl rfl rfl rfl (fun C hr => ?_)
  refine gn (fun t H n => t 0 = .agg (c33 a0) ∧ t 1 = .sc (.int .i64 a1)) ⟨by simp, by simp⟩ fun t H n q => ?_
  apply eY 2; simp [q]
  refine gn (fun t H n => t 0 = .agg (c33 a0) ∧ t 1 = .sc (.int .i64 a1)) (by simp [q]) fun t H n q => ?_
  refine Stk.om (mop_box T.t33 (cs := c33 a0) (by show partOk (t 0) = true; rw [q.1]; rfl) (by show cellsOf (t 0) = _; rw [q.1]; rfl)) (by simp [q]) rfl (fun t' ht' => ?_)
  refine gn (fun t H n => ∃ b1, t 1 = .sc (.int .i64 a1) ∧ t 2 = .own b1 0 ∧ H b1 = some (.cells (c33 a0) 33) ∧ b1 < n) ⟨n, j2 (by simp [ht', q]) ⟨upd_same _ _ _, Nat.lt_succ_self _⟩⟩ fun t H n ⟨b1, q⟩ => ?_
  apply eY 23; simp [q, ld_33_4_29, ld_33_5_9]
  obtain ⟨K1, hK1, h⟩ := jnd h
  refine Stk.jn (fun t H n => ∃ v2 : Int, K1 v2 = some r ∧ t 1 = .sc (.int .i64 v2) ∧ t 2 = .own b1 0 ∧ H b1 = some (.cells (c33 a0) 33) ∧ b1 < n) trivial (fun J1 hJ1 => ?_) ?_
  · skip
    apply eY 1; simp [q, ld_33_4_29, ld_33_5_9]
    refine gn (fun t H n => t 1 = .sc (.int .i64 (IntKind.i64.wrap ((IntKind.i64.wrap ((IntKind.i64.wrap (a1 - 1)) - (if 1048576 < (a0.Bytes.length : Int) then 1048576 else (a0.Bytes.length : Int)))) - (if 1048576 < (a0.Name.size : Int) then 1048576 else (a0.Name.size : Int))))) ∧ t 2 = .own b1 0 ∧ t 5 = .sc (.int .i64 0) ∧ H b1 = some (.cells (c33 a0) 33) ∧ b1 < n) (by simp [q, ld_33_4_29, ld_33_5_9]) fun t H n q => ?_
    refine Stk.lo (fun μ t H n => ∃ v3 : Int, ∃ v4 : Int, R04_Light_L0 F ρ8 a0 K1 μ v3 v4 = some r ∧ t 1 = .sc (.int .i64 v3) ∧ t 2 = .own b1 0 ∧ t 5 = .sc (.int .i64 v4) ∧ H b1 = some (.cells (c33 a0) 33) ∧ b1 < n) F ⟨(IntKind.i64.wrap ((IntKind.i64.wrap ((IntKind.i64.wrap (a1 - 1)) - (if 1048576 < (a0.Bytes.length : Int) then 1048576 else (a0.Bytes.length : Int)))) - (if 1048576 < (a0.Name.size : Int) then 1048576 else (a0.Name.size : Int)))), 0, h, q⟩ ?_
    clear q h
    rintro J2 hJ2 μ t H n ⟨v3, v4, h, q⟩
    cases μ with
    | zero => exact absurd h (by simp [R04_Light_L0])
    | succ μ =>
    rw [R04_Light_L0] at h
    apply eY 9; simp [q, ld_33_6_30]
    refine Stk.gd 3 24 27 (fun z => .sc (.bool (z && (decide (0 ≤ v3))))) (w := decide (v4 < (a0.Kids.length : Int))) (by simp [q, ld_33_6_30]) (by simp [q, ld_33_6_30]) (by simp [q, ld_33_6_30]) ?_; simp [q, ld_33_6_30]
    apply eY 1; simp [q, ld_33_6_30]
    refine cd ((decide (v4 < (a0.Kids.length : Int))) && (decide (0 ≤ v3))) (by simp [q, ld_33_6_30]) (fun hb7 => ?_) (fun hb7 => ?_)
    ·have h := cT hb7 h
     obtain ⟨x8, hx8, h⟩ := bnd h
     obtain ⟨i0x8, i1x8, i2x8, _⟩ := idx_ok hx8
     have ex8_0_33 : partOf T.T 33 (encs c33 a0.Kids) (v4.toNat * 8) = some (.agg (c33 x8)) := (part_elem0 (e := c33) (z := 8) (ty := 33) T.t33 (by decide) (by decide) hx8 0 (by decide)).trans (ld_33_0_33 _)
     obtain ⟨x9, hx9, h⟩ := bnd h
     apply eY 10; simp [q, ld_33_6_30, i0x8, i1x8, pd33, ex8_0_33]
     refine cw (hρ8 _ _ _ hx9) (by simp [q, ld_33_6_30, i0x8, i1x8, pd33, ex8_0_33]) rfl rfl (by simp [q, ld_33_6_30, i0x8, i1x8, pd33, ex8_0_33]) (.cons (.free (fr33 _)) (.cons (.free (rfl)) (.nil))) rfl ?_
     rintro _ rfl
     apply eY 8; simp [q, ld_33_6_30, i0x8, i1x8, pd33, ex8_0_33]
     exact lm (hJ2 _ _ _ _ ⟨x9, (IntKind.i64.wrap (v4 + 1)), h, by simp [q, ld_33_6_30, i0x8, i1x8, pd33, ex8_0_33]⟩)
    ·have h := cF hb7 h
     refine Stk.ex rfl ?_
     exact l0 (hJ1 _ _ _ ⟨v3, h, by simp [q, ld_33_6_30]⟩)
  clear q h
  rintro t H n ⟨v2, h, q⟩
  subst hK1
  apply eY 6; simp [q]
  refine gn (fun t H n => t 1 = .sc (.int .i64 v2) ∧ t 2 = .own b1 0 ∧ t 6 = .sc (.int .i64 0) ∧ H b1 = some (.cells (c33 a0) 33) ∧ b1 < n) (by simp [q]) fun t H n q => ?_
  refine Stk.lo (fun μ t H n => ∃ v10 : Int, ∃ v11 : Int, R04_Light_L1 F ρ8 a0 μ v10 v11 = some r ∧ t 1 = .sc (.int .i64 v10) ∧ t 2 = .own b1 0 ∧ t 6 = .sc (.int .i64 v11) ∧ H b1 = some (.cells (c33 a0) 33) ∧ b1 < n) F ⟨v2, 0, h, q⟩ ?_
  clear q h
  rintro J3 hJ3 μ t H n ⟨v10, v11, h, q⟩
  cases μ with
  | zero => exact absurd h (by simp [R04_Light_L1])
  | succ μ =>
  rw [R04_Light_L1] at h
  apply eY 9; simp [q, ld_33_7_31]
  refine Stk.gd 3 42 45 (fun z => .sc (.bool (z && (decide (0 ≤ v10))))) (w := decide (v11 < (a0.Arms.length : Int))) (by simp [q, ld_33_7_31]) (by simp [q, ld_33_7_31]) (by simp [q, ld_33_7_31]) ?_; simp [q, ld_33_7_31]
  apply eY 1; simp [q, ld_33_7_31]
  refine cd ((decide (v11 < (a0.Arms.length : Int))) && (decide (0 ≤ v10))) (by simp [q, ld_33_7_31]) (fun hb14 => ?_) (fun hb14 => ?_)
  ·have h := cT hb14 h
   apply eY 3; simp [q, ld_33_7_31]
   refine gn (fun t H n => t 1 = .sc (.int .i64 v10) ∧ t 2 = .own b1 0 ∧ t 6 = .sc (.int .i64 v11) ∧ t 45 = .sc (.bool ((decide (v11 < (a0.Arms.length : Int))) && (decide (0 ≤ v10)))) ∧ H b1 = some (.cells (c33 a0) 33) ∧ b1 < n) (by simp [q, ld_33_7_31]) fun t H n q => ?_
   obtain ⟨n0, hn0⟩ : ∃ m, m = n := ⟨n, rfl⟩
   have ln0 : n0 ≤ n := Nat.le_of_eq hn0
   refine Stk.rgD [.rd [], .rd [b1], .rd [], .rd [], .rd [], .rd [], .rd [], .rd [b1], .rd [], .rd [], .rd [], .rd [], .rd [], .rd [], .rd [], .rd []] none (by kernel_rfl) (by rfl) rfl (by simp [below, hn0, q]) rfl ?_
   obtain ⟨x15, hx15, h⟩ := bnd h
   obtain ⟨i0x15, i1x15, i2x15, _⟩ := idx_ok hx15
   have ex15_6_33 : partOf T.T 33 (encs c68 a0.Arms) (v11.toNat * 14 + 6) = some (.agg (c33 x15.Body)) := (part_elem0 (e := c68) (z := 14) (ty := 33) T.t33 (by decide) (by decide) hx15 6 (by decide)).trans (ld_68_6_33 _)
   have ex15_0_39 : partOf T.T 39 (encs c68 a0.Arms) (v11.toNat * 14) = some (.agg (c39 x15.Pat)) := (part_elem0 (e := c68) (z := 14) (ty := 39) T.t39 (by decide) (by decide) hx15 0 (by decide)).trans (ld_68_0_39 _)
   obtain ⟨x16, hx16, h⟩ := bnd h
   apply eY 13; simp [q, ld_33_7_31, i0x15, i1x15, pd33, ex15_6_33, pd39, ex15_0_39]
   refine cx (ok_R04_LightPat F _ _ _ hx16) rfl rfl (by simp [q, ld_33_7_31, i0x15, i1x15, pd33, ex15_6_33, pd39, ex15_0_39]) rfl rfl (by simp [q, ld_33_7_31, i0x15, i1x15, pd33, ex15_6_33, pd39, ex15_0_39]) (.cons (.free (fr39 _)) (.cons (.free (rfl)) (.nil))) rfl ?_
   rintro _ rfl
   obtain ⟨x17, hx17, h⟩ := bnd h
   refine cx (hρ8 _ _ _ hx17) rfl rfl (by simp [q, ld_33_7_31, i0x15, i1x15, pd33, ex15_6_33, pd39, ex15_0_39]) rfl rfl (by simp [q, ld_33_7_31, i0x15, i1x15, pd33, ex15_6_33, pd39, ex15_0_39]) (.cons (.free (fr33 _)) (.cons (.free (rfl)) (.nil))) rfl ?_
   rintro _ rfl
   apply eY 8; simp [q, ld_33_7_31, i0x15, i1x15, pd33, ex15_6_33, pd39, ex15_0_39]
   exact lm (hJ3 _ _ _ _ ⟨x17, (IntKind.i64.wrap (v11 + 1)), h, by simp [ln0, q, ld_33_7_31, i0x15, i1x15, pd33, ex15_6_33, pd39, ex15_0_39]⟩)
  ·have h := cF hb14 h
   refine Stk.ex rfl ?_
   apply eY 6; simp [q, ld_33_7_31]
   obtain rfl := sj h
   exact (hF hr (by simp [q, ld_33_7_31]) rfl).1
theorem okG_R04_Light : ∀ F : Nat, (∀ (a0 : AExpr) (a1 : Int) (r : Int), R04_Light F a0 a1 = some r → RunF Tryz.prog T.T 8 [.agg (c33 a0), .sc (.int .i64 a1)] (.sc (.int .i64 r)))
  | 0 => (fun a0 a1 r h => by rw [R04_Light] at h; cases h)
  | F + 1 => (fun a0 a1 r h => okB_R04_Light F (R04_Light F) (okG_R04_Light F) a0 a1 r (by rw [R04_Light] at h; exact h))
theorem ok_R04_Light (F : Nat) (a0 : AExpr) (a1 : Int) (r : Int) (h : R04_Light F a0 a1 = some r) : RunF Tryz.prog T.T 8 [.agg (c33 a0), .sc (.int .i64 a1)] (.sc (.int .i64 r)) := (okG_R04_Light F) a0 a1 r h
@[simp] abbrev Q0_1 (a0 : AProg) (b1 : Nat) (t : Nat → AV) (H : Mem) (n : Nat) : Prop := t 2 = .own b1 0 ∧ H b1 = some (.cells (c36 a0) 36) ∧ b1 < n
theorem ok_R04_LP (F : Nat) (a0 : AProg) (a1 : Int) (r : Int) (h : R04_LP F a0 a1 = some r) : RunF Tryz.prog T.T 21 [.agg (c36 a0), .sc (.int .i64 a1)] (.sc (.int .i64 r)) := by
  rw [R04_LP] at h
  refine RunF.z Tryz.func21 rfl rfl rfl rfl rfl (fun C hr => ?_)
  refine gn (fun t H n => t 0 = .agg (c36 a0) ∧ t 1 = .sc (.int .i64 a1)) ⟨by simp, by simp⟩ fun t H n q => ?_
  apply eY 2; simp [q]
  refine gn (fun t H n => t 0 = .agg (c36 a0) ∧ t 1 = .sc (.int .i64 a1)) (by simp [q]) fun t H n q => ?_
  refine Stk.om (mop_box T.t36 (cs := c36 a0) (by show partOk (t 0) = true; rw [q.1]; rfl) (by show cellsOf (t 0) = _; rw [q.1]; rfl)) (by simp [q]) rfl (fun t' ht' => ?_)
  refine gn (fun t H n => ∃ b1, t 1 = .sc (.int .i64 a1) ∧ t 2 = .own b1 0 ∧ H b1 = some (.cells (c36 a0) 36) ∧ b1 < n) ⟨n, j2 (by simp [ht', q]) ⟨upd_same _ _ _, Nat.lt_succ_self _⟩⟩ fun t H n ⟨b1, q⟩ => ?_
  apply eY 3; simp [q]
  refine gn (fun t H n => Q0_1 a0 b1 t H n ∧ t 1 = .sc (.int .i64 a1)) (by simp [q]) fun t H n q => ?_
  obtain ⟨n0, hn0⟩ : ∃ m, m = n := ⟨n, rfl⟩
  have ln0 : n0 ≤ n := Nat.le_of_eq hn0
  refine Stk.rgD [.rd [], .rd [b1], .rd [], .rd [b1], .rd [], .rd [], .rd [], .rd []] none (by kernel_rfl) (by rfl) rfl (by simp [below, hn0, q]) rfl ?_
  obtain ⟨x2, hx2, h⟩ := bnd h
  apply eY 5; simp [q, ld_36_8_33, ld_36_4_26]
  refine cx (ok_R04_LightType F _ _ _ hx2) rfl rfl (by simp [q, ld_36_8_33, ld_36_4_26]) rfl rfl (by simp [q, ld_36_8_33, ld_36_4_26]) (.cons (.free (fr26 _)) (.cons (.free (rfl)) (.nil))) rfl ?_
  rintro _ rfl
  obtain ⟨x3, hx3, h⟩ := bnd h
  refine cx (ok_R04_Light F _ _ _ hx3) rfl rfl (by simp [q, ld_36_8_33, ld_36_4_26]) rfl rfl (by simp [q, ld_36_8_33, ld_36_4_26]) (.cons (.free (fr33 _)) (.cons (.free (rfl)) (.nil))) rfl ?_
  rintro _ rfl
  apply eY 7; simp [q, ld_36_8_33, ld_36_4_26]
  obtain ⟨K1, hK1, h⟩ := jnd h
  refine Stk.jn (fun t H n => ∃ v4 : Int, K1 v4 = some r ∧ t 1 = .sc (.int .i64 v4) ∧ t 2 = .own b1 0 ∧ H b1 = some (.cells (c36 a0) 36) ∧ b1 < n) trivial (fun J1 hJ1 => ?_) ?_
  · skip
    apply eY 1; simp [q, ld_36_8_33, ld_36_4_26]
    refine gn (fun t H n => Q0_1 a0 b1 t H n ∧ t 1 = .sc (.int .i64 x3) ∧ t 5 = .sc (.int .i64 0) ∧ n0 ≤ n) (by simp [q, ld_36_8_33, ld_36_4_26, ln0]) fun t H n q => ?_
    refine Stk.lo (fun μ t H n => ∃ v5 : Int, ∃ v6 : Int, R04_LP_L0 F a0 K1 μ v5 v6 = some r ∧ t 1 = .sc (.int .i64 v5) ∧ t 2 = .own b1 0 ∧ t 5 = .sc (.int .i64 v6) ∧ H b1 = some (.cells (c36 a0) 36) ∧ b1 < n) F ⟨x3, 0, h, q.2.1, q.1.1, q.2.2.1, q.1.2.1, q.1.2.2⟩ ?_
    clear q h
    rintro J2 hJ2 μ t H n ⟨v5, v6, h, q⟩
    cases μ with
    | zero => exact absurd h (by simp [R04_LP_L0])
    | succ μ =>
    rw [R04_LP_L0] at h
    apply eY 9; simp [q, ld_36_0_22]
    refine Stk.gd 3 24 27 (fun z => .sc (.bool (z && (decide (0 ≤ v5))))) (w := decide (v6 < (a0.Datas.length : Int))) (by simp [q, ld_36_0_22]) (by simp [q, ld_36_0_22]) (by simp [q, ld_36_0_22]) ?_; simp [q, ld_36_0_22]
    apply eY 1; simp [q, ld_36_0_22]
    refine cd ((decide (v6 < (a0.Datas.length : Int))) && (decide (0 ≤ v5))) (by simp [q, ld_36_0_22]) (fun hb9 => ?_) (fun hb9 => ?_)
    ·have h := cT hb9 h
     obtain ⟨x10, hx10, h⟩ := bnd h
     obtain ⟨i0x10, i1x10, i2x10, _⟩ := idx_ok hx10
     have ex10_2_9 : partOf T.T 9 (encs c72 a0.Datas) (v6.toNat * 4 + 2) = some (.sc (.string x10.Name)) := (part_elem0 (e := c72) (z := 4) (ty := 9) T.t9 (by decide) (by decide) hx10 2 (by decide)).trans (ld_72_2_9 _)
     apply eY 22; simp [q, ld_36_0_22, i0x10, i1x10, pd9, ex10_2_9]
     obtain ⟨K3, hK3, h⟩ := jnd h
     refine Stk.jn (fun t H n => ∃ v11 : Int, K3 v11 = some r ∧ t 1 = .sc (.int .i64 v11) ∧ t 2 = .own b1 0 ∧ t 5 = .sc (.int .i64 v6) ∧ H b1 = some (.cells (c36 a0) 36) ∧ b1 < n) trivial (fun J3 hJ3 => ?_) ?_
     · skip
       apply eY 1; simp [q, ld_36_0_22, i0x10, i1x10, pd9, ex10_2_9]
       refine gn (fun t H n => Q0_1 a0 b1 t H n ∧ t 1 = .sc (.int .i64 (IntKind.i64.wrap ((IntKind.i64.wrap (v5 - 1)) - (if 1048576 < (x10.Name.size : Int) then 1048576 else (x10.Name.size : Int))))) ∧ t 5 = .sc (.int .i64 v6) ∧ t 6 = .sc (.int .i64 0)) (by simp [q, ld_36_0_22, i0x10, i1x10, pd9, ex10_2_9]) fun t H n q => ?_
       refine Stk.lo (fun μ t H n => ∃ v12 : Int, ∃ v13 : Int, R04_LP_L1 F a0 v6 K3 μ v12 v13 = some r ∧ t 1 = .sc (.int .i64 v12) ∧ t 2 = .own b1 0 ∧ t 5 = .sc (.int .i64 v6) ∧ t 6 = .sc (.int .i64 v13) ∧ H b1 = some (.cells (c36 a0) 36) ∧ b1 < n) F ⟨(IntKind.i64.wrap ((IntKind.i64.wrap (v5 - 1)) - (if 1048576 < (x10.Name.size : Int) then 1048576 else (x10.Name.size : Int)))), 0, h, q.2.1, q.1.1, q.2.2.1, q.2.2.2, q.1.2.1, q.1.2.2⟩ ?_
       clear q h
       rintro J4 hJ4 μ t H n ⟨v12, v13, h, q⟩
       cases μ with
       | zero => exact absurd h (by simp [R04_LP_L1])
       | succ μ =>
       rw [R04_LP_L1] at h
       obtain ⟨x16, hx16, h⟩ := bnd h
       obtain ⟨i0x16, i1x16, i2x16, _⟩ := idx_ok hx16
       have ex16_3_70 : partOf T.T 70 (encs c72 a0.Datas) (v6.toNat * 4 + 3) = some (.ssl (encs c92 x16.Cons) x16.Cons.length false) := (part_elem0 (e := c72) (z := 4) (ty := 70) T.t70 (by decide) (by decide) hx16 3 (by decide)).trans (ld_72_3_70 _)
       apply eY 13; simp [q, ld_36_0_22, i0x16, i1x16, pd70, ex16_3_70]
       refine Stk.gd 3 50 53 (fun z => .sc (.bool (z && (decide (0 ≤ v12))))) (w := decide (v13 < (x16.Cons.length : Int))) (by simp [q, ld_36_0_22, i0x16, i1x16, pd70, ex16_3_70]) (by simp [q, ld_36_0_22, i0x16, i1x16, pd70, ex16_3_70]) (by simp [q, ld_36_0_22, i0x16, i1x16, pd70, ex16_3_70]) ?_; simp [q, ld_36_0_22, i0x16, i1x16, pd70, ex16_3_70]
       apply eY 1; simp [q, ld_36_0_22, i0x16, i1x16, pd70, ex16_3_70]
       refine cd ((decide (v13 < (x16.Cons.length : Int))) && (decide (0 ≤ v12))) (by simp [q, ld_36_0_22, i0x16, i1x16, pd70, ex16_3_70]) (fun hb17 => ?_) (fun hb17 => ?_)
       ·have h := cT hb17 h
        apply eY 3; simp [q, ld_36_0_22, i0x16, i1x16, pd70, ex16_3_70]
        refine gn (fun t H n => Q0_1 a0 b1 t H n ∧ t 1 = .sc (.int .i64 v12) ∧ t 5 = .sc (.int .i64 v6) ∧ t 6 = .sc (.int .i64 v13) ∧ t 53 = .sc (.bool ((decide (v13 < (x16.Cons.length : Int))) && (decide (0 ≤ v12))))) (by simp [q, ld_36_0_22, i0x16, i1x16, pd70, ex16_3_70]) fun t H n q => ?_
        obtain ⟨n0, hn0⟩ : ∃ m, m = n := ⟨n, rfl⟩
        have ln0 : n0 ≤ n := Nat.le_of_eq hn0
        refine Stk.rgD [.rd [], .rd [b1], .rd [], .rd [], .rd [], .rd [], .rd [], .rd [], .rd [], .rd [], .rd [], .rd [b1], .rd [], .rd [], .rd [], .rd [], .rd [], .rd [], .rd [], .rd [], .rd [], .rd [], .rd [], .rd []] none (by kernel_rfl) (by rfl) rfl (by simp [below, hn0, q]) rfl ?_
        obtain ⟨x18, hx18, h⟩ := bnd h
        obtain ⟨i0x18, i1x18, i2x18, _⟩ := idx_ok hx18
        have ex18_3_70 : partOf T.T 70 (encs c72 a0.Datas) (v6.toNat * 4 + 3) = some (.ssl (encs c92 x18.Cons) x18.Cons.length false) := (part_elem0 (e := c72) (z := 4) (ty := 70) T.t70 (by decide) (by decide) hx18 3 (by decide)).trans (ld_72_3_70 _)
        obtain ⟨x19, hx19, h⟩ := bnd h
        obtain ⟨i0x19, i1x19, i2x19, _⟩ := idx_ok hx19
        have ex19_0_9 : partOf T.T 9 (encs c92 x18.Cons) (v13.toNat * 2) = some (.sc (.string x19.Name)) := (part_elem0 (e := c92) (z := 2) (ty := 9) T.t9 (by decide) (by decide) hx19 0 (by decide)).trans (ld_92_0_9 _)
        have ex18_3_70 : partOf T.T 70 (encs c72 a0.Datas) (v6.toNat * 4 + 3) = some (.ssl (encs c92 x18.Cons) x18.Cons.length false) := (part_elem0 (e := c72) (z := 4) (ty := 70) T.t70 (by decide) (by decide) hx18 3 (by decide)).trans (ld_72_3_70 _)
        have ex19_1_24 : partOf T.T 24 (encs c92 x18.Cons) (v13.toNat * 2 + 1) = some (.ssl (encs c26 x19.Fields) x19.Fields.length false) := (part_elem0 (e := c92) (z := 2) (ty := 24) T.t24 (by decide) (by decide) hx19 1 (by decide)).trans (ld_92_1_24 _)
        apply eY 20; simp [q, ld_36_0_22, i0x18, i1x18, pd70, ex18_3_70, i0x19, i1x19, pd9, ex19_0_9, pd24, ex19_1_24]
        refine gn (fun t H n => Q0_1 a0 b1 t H n ∧ t 1 = .sc (.int .i64 v12) ∧ t 5 = .sc (.int .i64 v6) ∧ t 6 = .sc (.int .i64 v13) ∧ t 65 = .sc (.string x19.Name) ∧ t 75 = .ssl (encs c26 x19.Fields) x19.Fields.length false ∧ n0 ≤ n) (by simp [q, ld_36_0_22, i0x18, i1x18, pd70, ex18_3_70, i0x19, i1x19, pd9, ex19_0_9, pd24, ex19_1_24, ln0]) fun t H n q => ?_
        refine Stk.ovD rfl (by simp [q]) rfl (vop_build T.t26 rfl rfl (cs := c26 (AType.mk 0 ⟨#[]⟩ [])) (cs' := c26 (AType.mk 0 x19.Name x19.Fields)) rfl (.cons q.2.2.2.2.1 rfl rfl rfl rfl (rfl) (by rw [len26]; decide) (st_26_1_9 _ _) (.cons q.2.2.2.2.2.1 rfl rfl rfl rfl (rfl) (by rw [len26]; decide) (st_26_2_24 _ _) (.nil)))) (by simp [q]) rfl (fun t' ht' => ?_)
        refine gn (fun t H n => Q0_1 a0 b1 t H n ∧ t 1 = .sc (.int .i64 v12) ∧ t 5 = .sc (.int .i64 v6) ∧ t 6 = .sc (.int .i64 v13) ∧ t 76 = .agg (c26 (AType.mk 0 x19.Name x19.Fields)) ∧ n0 ≤ n) (by simp [ht', q]) fun t H n q => ?_
        obtain ⟨x20, hx20, h⟩ := bnd h
        apply eY 1; simp [q]
        refine cx (ok_R04_LightType F _ _ _ hx20) rfl rfl (by simp [q]) rfl rfl (by simp [q]) (.cons (.free (fr26 _)) (.cons (.free (rfl)) (.nil))) rfl ?_
        rintro _ rfl
        apply eY 8; simp [q]
        exact lm (hJ4 _ _ _ _ ⟨x20, (IntKind.i64.wrap (v13 + 1)), h, by simp [q]⟩)
       ·have h := cF hb17 h
        refine Stk.ex rfl ?_
        exact l0 (hJ3 _ _ _ ⟨v12, h, by simp [q, ld_36_0_22, i0x16, i1x16, pd70, ex16_3_70]⟩)
     clear q h
     rintro t H n ⟨v11, h, q⟩
     subst hK3
     apply eY 6; simp [q]
     exact lm (hJ2 _ _ _ _ ⟨v11, (IntKind.i64.wrap (v6 + 1)), h, by simp [q]⟩)
    ·have h := cF hb9 h
     refine Stk.ex rfl ?_
     exact l0 (hJ1 _ _ _ ⟨v5, h, by simp [q, ld_36_0_22]⟩)
  clear q h ln0
  rintro t H n ⟨v4, h, q⟩
  subst hK1
  apply eY 5; simp [q]
  obtain ⟨K5, hK5, h⟩ := jnd h
  refine Stk.jn (fun t H n => ∃ v21 : Int, K5 v21 = some r ∧ t 1 = .sc (.int .i64 v21) ∧ t 2 = .own b1 0 ∧ H b1 = some (.cells (c36 a0) 36) ∧ b1 < n) trivial (fun J5 hJ5 => ?_) ?_
  · skip
    apply eY 1; simp [q]
    refine gn (fun t H n => Q0_1 a0 b1 t H n ∧ t 1 = .sc (.int .i64 v4) ∧ t 7 = .sc (.int .i64 0)) (by simp [q]) fun t H n q => ?_
    refine Stk.lo (fun μ t H n => ∃ v22 : Int, ∃ v23 : Int, R04_LP_L2 F a0 K5 μ v22 v23 = some r ∧ t 1 = .sc (.int .i64 v22) ∧ t 2 = .own b1 0 ∧ t 7 = .sc (.int .i64 v23) ∧ H b1 = some (.cells (c36 a0) 36) ∧ b1 < n) F ⟨v4, 0, h, q.2.1, q.1.1, q.2.2, q.1.2.1, q.1.2.2⟩ ?_
    clear q h
    rintro J6 hJ6 μ t H n ⟨v22, v23, h, q⟩
    cases μ with
    | zero => exact absurd h (by simp [R04_LP_L2])
    | succ μ =>
    rw [R04_LP_L2] at h
    apply eY 9; simp [q, ld_36_1_23]
    refine Stk.gd 3 84 87 (fun z => .sc (.bool (z && (decide (0 ≤ v22))))) (w := decide (v23 < (a0.Funs.length : Int))) (by simp [q, ld_36_1_23]) (by simp [q, ld_36_1_23]) (by simp [q, ld_36_1_23]) ?_; simp [q, ld_36_1_23]
    apply eY 1; simp [q, ld_36_1_23]
    refine cd ((decide (v23 < (a0.Funs.length : Int))) && (decide (0 ≤ v22))) (by simp [q, ld_36_1_23]) (fun hb26 => ?_) (fun hb26 => ?_)
    ·have h := cT hb26 h
     obtain ⟨x27, hx27, h⟩ := bnd h
     obtain ⟨i0x27, i1x27, i2x27, _⟩ := idx_ok hx27
     have ex27_0_77 : partOf T.T 77 (encs c77 a0.Funs) (v23.toNat * 15) = some (.agg (c77 x27)) := (part_elem0 (e := c77) (z := 15) (ty := 77) T.t77 (by decide) (by decide) hx27 0 (by decide)).trans (ld_77_0_77 _)
     apply eY 10; simp [q, ld_36_1_23, i0x27, i1x27, pd77, ex27_0_77]
     refine Stk.oz T.t77 (cs := c77 (AFun.mk (APos.mk 0 0) ⟨#[]⟩ [] (AType.mk 0 ⟨#[]⟩ []) (AExpr.mk 0 (APos.mk 0 0) 0 [] ⟨#[]⟩ [] []))) (by rfl) rfl (by simp [q, ld_36_1_23, i0x27, i1x27, pd77, ex27_0_77]) rfl (fun t' ht' => ?_)
     refine gn (fun t H n => ∃ b28, Q0_1 a0 b1 t H n ∧ t 1 = .sc (.int .i64 v22) ∧ t 7 = .sc (.int .i64 v23) ∧ t 8 = .own b28 0 ∧ t 94 = .agg (c77 x27) ∧ H b28 = some (.cells (c77 (AFun.mk (APos.mk 0 0) ⟨#[]⟩ [] (AType.mk 0 ⟨#[]⟩ []) (AExpr.mk 0 (APos.mk 0 0) 0 [] ⟨#[]⟩ [] []))) 77) ∧ b28 < n ∧ b1 ≠ b28) ⟨n, ⟨by simp [ht', q, ld_36_1_23, i0x27, i1x27, pd77, ex27_0_77], (upd_ne _ _ (Nat.ne_of_lt q.2.2.2.2)).trans q.2.2.2.1, Nat.lt_succ_of_lt q.2.2.2.2⟩, j4 (by simp [ht', q, ld_36_1_23, i0x27, i1x27, pd77, ex27_0_77]) ⟨upd_same _ _ _, Nat.lt_succ_self _, Nat.ne_of_lt q.2.2.2.2⟩⟩ fun t H n ⟨b28, ⟨f2, b_b1, l_b1⟩, f1, f7, f8, f94, b_b28, l_b28, d_b1_b28⟩ => ?_
     refine Stk.om (mop_store (z := 15) rfl f8 b_b28 f94 (len77 _) (by rw [len77]; decide) (ok77 _) (st_77_0_77 _ _)) (by simp [f1, f2, f7, f8, f94]) rfl (fun t' ht' => ?_)
     refine gn (fun t H n => Q0_1 a0 b1 t H n ∧ t 1 = .sc (.int .i64 v22) ∧ t 7 = .sc (.int .i64 v23) ∧ t 8 = .own b28 0 ∧ H b28 = some (.cells (c77 x27) 77) ∧ b28 < n ∧ b1 ≠ b28) ⟨⟨by simp [ht', f2], (upd_ne _ _ d_b1_b28).trans b_b1, l_b1⟩, j3 (by simp [ht', f1, f7, f8]) ⟨upd_same _ _ _, l_b28, d_b1_b28⟩⟩ fun t H n q => ?_
     apply eY 2; simp [q]
     refine gn (fun t H n => Q0_1 a0 b1 t H n ∧ t 1 = .sc (.int .i64 v22) ∧ t 7 = .sc (.int .i64 v23) ∧ t 8 = .own b28 0 ∧ H b28 = some (.cells (c77 x27) 77) ∧ b28 < n ∧ b1 ≠ b28) (by simp [q]) fun t H n q => ?_
     obtain ⟨n0, hn0⟩ : ∃ m, m = n := ⟨n, rfl⟩
     have ln0 : n0 ≤ n := Nat.le_of_eq hn0
     refine Stk.rgD [.rd [], .rd [b28], .rd [], .rd [b28], .rd [], .rd [], .rd [], .rd [b28], .rd [], .rd [], .rd [], .rd [], .rd [], .rd []] none (by kernel_rfl) (by rfl) rfl (by simp [below, hn0, q, hn0]) rfl ?_
     obtain ⟨x29, hx29, h⟩ := bnd h
     apply eY 11; simp [q, ld_77_7_33, ld_77_4_26, ld_77_2_9]
     refine cx (ok_R04_LightType F _ _ _ hx29) rfl rfl (by simp [q, ld_77_7_33, ld_77_4_26, ld_77_2_9]) rfl rfl (by simp [q, ld_77_7_33, ld_77_4_26, ld_77_2_9]) (.cons (.free (fr26 _)) (.cons (.free (rfl)) (.nil))) rfl ?_
     rintro _ rfl
     obtain ⟨x30, hx30, h⟩ := bnd h
     refine cx (ok_R04_Light F _ _ _ hx30) rfl rfl (by simp [q, ld_77_7_33, ld_77_4_26, ld_77_2_9]) rfl rfl (by simp [q, ld_77_7_33, ld_77_4_26, ld_77_2_9]) (.cons (.free (fr33 _)) (.cons (.free (rfl)) (.nil))) rfl ?_
     rintro _ rfl
     apply eY 6; simp [q, ld_77_7_33, ld_77_4_26, ld_77_2_9]
     obtain ⟨K7, hK7, h⟩ := jnd h
     refine Stk.jn (fun t H n => ∃ v31 : Int, K7 v31 = some r ∧ t 1 = .sc (.int .i64 v31) ∧ t 2 = .own b1 0 ∧ t 7 = .sc (.int .i64 v23) ∧ H b1 = some (.cells (c36 a0) 36) ∧ b1 < n) trivial (fun J7 hJ7 => ?_) ?_
     · skip
       apply eY 1; simp [q, ld_77_7_33, ld_77_4_26, ld_77_2_9]
       refine gn (fun t H n => Q0_1 a0 b1 t H n ∧ t 1 = .sc (.int .i64 x30) ∧ t 7 = .sc (.int .i64 v23) ∧ t 8 = .own b28 0 ∧ t 9 = .sc (.int .i64 0) ∧ H b28 = some (.cells (c77 x27) 77) ∧ b28 < n ∧ b1 ≠ b28 ∧ n0 ≤ n) (by simp [q, ld_77_7_33, ld_77_4_26, ld_77_2_9, ln0]) fun t H n q => ?_
       refine Stk.lo (fun μ t H n => ∃ v32 : Int, ∃ v33 : Int, R04_LP_L3 F x27 K7 μ v32 v33 = some r ∧ t 1 = .sc (.int .i64 v32) ∧ t 2 = .own b1 0 ∧ t 7 = .sc (.int .i64 v23) ∧ t 8 = .own b28 0 ∧ t 9 = .sc (.int .i64 v33) ∧ H b1 = some (.cells (c36 a0) 36) ∧ b1 < n ∧ H b28 = some (.cells (c77 x27) 77) ∧ b28 < n ∧ b1 ≠ b28) F ⟨x30, 0, h, q.2.1, q.1.1, q.2.2.1, q.2.2.2.1, q.2.2.2.2.1, q.1.2.1, q.1.2.2, q.2.2.2.2.2.1, q.2.2.2.2.2.2.1, q.2.2.2.2.2.2.2.1⟩ ?_
       clear q h
       rintro J8 hJ8 μ t H n ⟨v32, v33, h, q⟩
       cases μ with
       | zero => exact absurd h (by simp [R04_LP_L3])
       | succ μ =>
       rw [R04_LP_L3] at h
       apply eY 9; simp [q, ld_77_3_75]
       refine Stk.gd 3 113 116 (fun z => .sc (.bool (z && (decide (0 ≤ v32))))) (w := decide (v33 < (x27.Params.length : Int))) (by simp [q, ld_77_3_75]) (by simp [q, ld_77_3_75]) (by simp [q, ld_77_3_75]) ?_; simp [q, ld_77_3_75]
       apply eY 1; simp [q, ld_77_3_75]
       refine cd ((decide (v33 < (x27.Params.length : Int))) && (decide (0 ≤ v32))) (by simp [q, ld_77_3_75]) (fun hb36 => ?_) (fun hb36 => ?_)
       ·have h := cT hb36 h
        apply eY 3; simp [q, ld_77_3_75]
        refine gn (fun t H n => Q0_1 a0 b1 t H n ∧ t 1 = .sc (.int .i64 v32) ∧ t 7 = .sc (.int .i64 v23) ∧ t 8 = .own b28 0 ∧ t 9 = .sc (.int .i64 v33) ∧ t 116 = .sc (.bool ((decide (v33 < (x27.Params.length : Int))) && (decide (0 ≤ v32)))) ∧ H b28 = some (.cells (c77 x27) 77) ∧ b28 < n ∧ b1 ≠ b28) (by simp [q, ld_77_3_75]) fun t H n q => ?_
        obtain ⟨n0, hn0⟩ : ∃ m, m = n := ⟨n, rfl⟩
        have ln0 : n0 ≤ n := Nat.le_of_eq hn0
        refine Stk.rgD [.rd [], .rd [b28], .rd [], .rd [], .rd [], .rd [], .rd [], .rd [], .rd [b28], .rd [], .rd [], .rd [], .rd [], .rd [], .rd [], .rd [], .rd [], .rd []] none (by kernel_rfl) (by rfl) rfl (by simp [below, hn0, q, hn0]) rfl ?_
        obtain ⟨x37, hx37, h⟩ := bnd h
        obtain ⟨i0x37, i1x37, i2x37, _⟩ := idx_ok hx37
        have ex37_1_26 : partOf T.T 26 (encs c81 x27.Params) (v33.toNat * 4 + 1) = some (.agg (c26 x37.Type_)) := (part_elem0 (e := c81) (z := 4) (ty := 26) T.t26 (by decide) (by decide) hx37 1 (by decide)).trans (ld_81_1_26 _)
        have ex37_0_9 : partOf T.T 9 (encs c81 x27.Params) (v33.toNat * 4) = some (.sc (.string x37.Name)) := (part_elem0 (e := c81) (z := 4) (ty := 9) T.t9 (by decide) (by decide) hx37 0 (by decide)).trans (ld_81_0_9 _)
        obtain ⟨x38, hx38, h⟩ := bnd h
        apply eY 16; simp [q, ld_77_3_75, i0x37, i1x37, pd26, ex37_1_26, pd9, ex37_0_9]
        refine cx (ok_R04_LightType F _ _ _ hx38) rfl rfl (by simp [q, ld_77_3_75, i0x37, i1x37, pd26, ex37_1_26, pd9, ex37_0_9]) rfl rfl (by simp [q, ld_77_3_75, i0x37, i1x37, pd26, ex37_1_26, pd9, ex37_0_9]) (.cons (.free (fr26 _)) (.cons (.free (rfl)) (.nil))) rfl ?_
        rintro _ rfl
        apply eY 8; simp [q, ld_77_3_75, i0x37, i1x37, pd26, ex37_1_26, pd9, ex37_0_9]
        exact lm (hJ8 _ _ _ _ ⟨x38, (IntKind.i64.wrap (v33 + 1)), h, by simp [ln0, q, ld_77_3_75, i0x37, i1x37, pd26, ex37_1_26, pd9, ex37_0_9]⟩)
       ·have h := cF hb36 h
        refine Stk.ex rfl ?_
        exact l0 (hJ7 _ _ _ ⟨v32, h, by simp [q, ld_77_3_75]⟩)
     clear q h ln0
     rintro t H n ⟨v31, h, q⟩
     subst hK7
     apply eY 6; simp [q]
     exact lm (hJ6 _ _ _ _ ⟨v31, (IntKind.i64.wrap (v23 + 1)), h, by simp [q]⟩)
    ·have h := cF hb26 h
     refine Stk.ex rfl ?_
     exact l0 (hJ5 _ _ _ ⟨v22, h, by simp [q, ld_36_1_23]⟩)
  clear q h
  rintro t H n ⟨v21, h, q⟩
  subst hK5
  apply eY 6; simp [q]
  refine gn (fun t H n => Q0_1 a0 b1 t H n ∧ t 1 = .sc (.int .i64 v21) ∧ t 10 = .sc (.int .i64 0)) (by simp [q]) fun t H n q => ?_
  refine Stk.lo (fun μ t H n => ∃ v39 : Int, ∃ v40 : Int, R04_LP_L4 F a0 μ v39 v40 = some r ∧ t 1 = .sc (.int .i64 v39) ∧ t 2 = .own b1 0 ∧ t 10 = .sc (.int .i64 v40) ∧ H b1 = some (.cells (c36 a0) 36) ∧ b1 < n) F ⟨v21, 0, h, q.2.1, q.1.1, q.2.2, q.1.2.1, q.1.2.2⟩ ?_
  clear q h
  rintro J9 hJ9 μ t H n ⟨v39, v40, h, q⟩
  cases μ with
  | zero => exact absurd h (by simp [R04_LP_L4])
  | succ μ =>
  rw [R04_LP_L4] at h
  apply eY 9; simp [q, ld_36_16_34]
  refine Stk.gd 3 141 144 (fun z => .sc (.bool (z && (decide (0 ≤ v39))))) (w := decide (v40 < (a0.Hands.length : Int))) (by simp [q, ld_36_16_34]) (by simp [q, ld_36_16_34]) (by simp [q, ld_36_16_34]) ?_; simp [q, ld_36_16_34]
  apply eY 1; simp [q, ld_36_16_34]
  refine cd ((decide (v40 < (a0.Hands.length : Int))) && (decide (0 ≤ v39))) (by simp [q, ld_36_16_34]) (fun hb43 => ?_) (fun hb43 => ?_)
  ·have h := cT hb43 h
   obtain ⟨x44, hx44, h⟩ := bnd h
   obtain ⟨i0x44, i1x44, i2x44, _⟩ := idx_ok hx44
   have ex44_0_83 : partOf T.T 83 (encs c83 a0.Hands) (v40.toNat * 16) = some (.agg (c83 x44)) := (part_elem0 (e := c83) (z := 16) (ty := 83) T.t83 (by decide) (by decide) hx44 0 (by decide)).trans (ld_83_0_83 _)
   apply eY 10; simp [q, ld_36_16_34, i0x44, i1x44, pd83, ex44_0_83]
   refine Stk.oz T.t83 (cs := c83 (AHand.mk (APos.mk 0 0) ⟨#[]⟩ (AParam.mk ⟨#[]⟩ (AType.mk 0 ⟨#[]⟩ [])) 0 (AExpr.mk 0 (APos.mk 0 0) 0 [] ⟨#[]⟩ [] []))) (by rfl) rfl (by simp [q, ld_36_16_34, i0x44, i1x44, pd83, ex44_0_83]) rfl (fun t' ht' => ?_)
   refine gn (fun t H n => ∃ b45, Q0_1 a0 b1 t H n ∧ t 1 = .sc (.int .i64 v39) ∧ t 10 = .sc (.int .i64 v40) ∧ t 11 = .own b45 0 ∧ t 151 = .agg (c83 x44) ∧ H b45 = some (.cells (c83 (AHand.mk (APos.mk 0 0) ⟨#[]⟩ (AParam.mk ⟨#[]⟩ (AType.mk 0 ⟨#[]⟩ [])) 0 (AExpr.mk 0 (APos.mk 0 0) 0 [] ⟨#[]⟩ [] []))) 83) ∧ b45 < n ∧ b1 ≠ b45) ⟨n, ⟨by simp [ht', q, ld_36_16_34, i0x44, i1x44, pd83, ex44_0_83], (upd_ne _ _ (Nat.ne_of_lt q.2.2.2.2)).trans q.2.2.2.1, Nat.lt_succ_of_lt q.2.2.2.2⟩, j4 (by simp [ht', q, ld_36_16_34, i0x44, i1x44, pd83, ex44_0_83]) ⟨upd_same _ _ _, Nat.lt_succ_self _, Nat.ne_of_lt q.2.2.2.2⟩⟩ fun t H n ⟨b45, ⟨f2, b_b1, l_b1⟩, f1, f10, f11, f151, b_b45, l_b45, d_b1_b45⟩ => ?_
   refine Stk.om (mop_store (z := 16) rfl f11 b_b45 f151 (len83 _) (by rw [len83]; decide) (ok83 _) (st_83_0_83 _ _)) (by simp [f1, f2, f10, f11, f151]) rfl (fun t' ht' => ?_)
   refine gn (fun t H n => Q0_1 a0 b1 t H n ∧ t 1 = .sc (.int .i64 v39) ∧ t 10 = .sc (.int .i64 v40) ∧ t 11 = .own b45 0 ∧ H b45 = some (.cells (c83 x44) 83) ∧ b45 < n ∧ b1 ≠ b45) ⟨⟨by simp [ht', f2], (upd_ne _ _ d_b1_b45).trans b_b1, l_b1⟩, j3 (by simp [ht', f1, f10, f11]) ⟨upd_same _ _ _, l_b45, d_b1_b45⟩⟩ fun t H n q => ?_
   apply eY 1; simp [q]
   refine gn (fun t H n => Q0_1 a0 b1 t H n ∧ t 1 = .sc (.int .i64 v39) ∧ t 10 = .sc (.int .i64 v40) ∧ t 11 = .own b45 0 ∧ H b45 = some (.cells (c83 x44) 83) ∧ b45 < n ∧ b1 ≠ b45) (by simp [q]) fun t H n q => ?_
   obtain ⟨n0, hn0⟩ : ∃ m, m = n := ⟨n, rfl⟩
   have ln0 : n0 ≤ n := Nat.le_of_eq hn0
   refine Stk.rgD [.rd [], .rd [b45], .rd [], .rd [], .rd [b45], .rd [], .rd [], .rd [], .rd [b45], .rd [], .rd [], .rd [], .rd [], .rd [], .rd [b45], .rd [], .rd [], .rd [], .rd [], .rd [], .rd []] none (by kernel_rfl) (by rfl) rfl (by simp [below, hn0, q, hn0]) rfl ?_
   obtain ⟨x46, hx46, h⟩ := bnd h
   apply eY 18; simp [q, ld_83_8_33, ld_83_4_26, ld_83_2_9, ld_83_3_9]
   refine cx (ok_R04_LightType F _ _ _ hx46) rfl rfl (by simp [q, ld_83_8_33, ld_83_4_26, ld_83_2_9, ld_83_3_9]) rfl rfl (by simp [q, ld_83_8_33, ld_83_4_26, ld_83_2_9, ld_83_3_9]) (.cons (.free (fr26 _)) (.cons (.free (rfl)) (.nil))) rfl ?_
   rintro _ rfl
   obtain ⟨x47, hx47, h⟩ := bnd h
   refine cx (ok_R04_Light F _ _ _ hx47) rfl rfl (by simp [q, ld_83_8_33, ld_83_4_26, ld_83_2_9, ld_83_3_9]) rfl rfl (by simp [q, ld_83_8_33, ld_83_4_26, ld_83_2_9, ld_83_3_9]) (.cons (.free (fr33 _)) (.cons (.free (rfl)) (.nil))) rfl ?_
   rintro _ rfl
   apply eY 8; simp [q, ld_83_8_33, ld_83_4_26, ld_83_2_9, ld_83_3_9]
   exact lm (hJ9 _ _ _ _ ⟨x47, (IntKind.i64.wrap (v40 + 1)), h, by simp [ln0, q, ld_83_8_33, ld_83_4_26, ld_83_2_9, ld_83_3_9]⟩)
  ·have h := cF hb43 h
   refine Stk.ex rfl ?_
   apply eY 6; simp [q, ld_36_16_34]
   obtain rfl := sj h
   exact (hF hr (by simp [q, ld_36_16_34]) rfl).1
theorem ok_L04_light (F : Nat) (a0 : AProg) (r : Bool) (h : L04_light F a0 = some r) : RunF Tryz.prog T.T 7 [.agg (c36 a0)] (.sc (.bool r)) := by
  rw [L04_light] at h
  refine RunF.z Tryz.func7 rfl rfl rfl rfl rfl (fun C hr => ?_)
  refine gn (fun t H n => t 0 = .agg (c36 a0)) (by simp) fun t H n q => ?_
  apply eY 2; simp [q]
  refine gn (fun t H n => t 0 = .agg (c36 a0)) (by simp [q]) fun t H n q => ?_
  refine Stk.om (mop_box T.t36 (cs := c36 a0) (by show partOk (t 0) = true; rw [q]; rfl) (by show cellsOf (t 0) = _; rw [q]; rfl)) (by simp [q]) rfl (fun t' ht' => ?_)
  refine gn (fun t H n => ∃ b1, t 1 = .own b1 0 ∧ H b1 = some (.cells (c36 a0) 36) ∧ b1 < n) ⟨n, by simp [ht'], upd_same _ _ _, Nat.lt_succ_self _⟩ fun t H n ⟨b1, q⟩ => ?_
  obtain ⟨x2, hx2, h⟩ := bnd h
  apply eY 5; simp [q, ld_36_0_36]
  refine cw (ok_R04_LP F _ _ _ hx2) (by simp [q, ld_36_0_36]) rfl rfl (by simp [q, ld_36_0_36]) (.cons (.free (fr36 _)) (.cons (.free (rfl)) (.nil))) rfl ?_
  rintro _ rfl
  apply eY 4; simp [q, ld_36_0_36]
  obtain rfl := sj h
  exact (hF hr (by simp [q, ld_36_0_36]) rfl).1
theorem ok_L04_awake (F : Nat) (r : Bool) (h : L04_awake F = some r) : RunF Tryz.prog T.T 11 [] (.sc (.bool r)) := by
  cases h
  exact RunF.x 4000 (by decide +kernel)
@[simp] abbrev Q0_2 (a0 : (List AType)) (caps1 : List AV) (first1 : List AV) (g1 : FuncId) (t : Nat → AV) : Prop := t 1 = .fn (.func g1) first1 caps1 ∧ t 8 = .ssl (encs c26 a0) a0.length false ∧ t 9 = .sc (.int .i64 (a0.length : Int))
theorem ok_atu_AType (F : Nat) (a0 : (List AType)) (φ1 : AType → Option AType) (g1 : FuncId) (first1 caps1 : List AV) (fr1 : freeL first1 = true ∧ freeL caps1 = true) (hφ1 : ∀ y0 r, φ1 y0 = some r → RunF Tryz.prog T.T g1 (first1 ++ [.agg (c26 y0)] ++ caps1) (.agg (c26 r))) (r : (List AType)) (h : atu_AType F a0 φ1 = some r) : RunF Tryz.prog T.T 142 [.ssl (encs c26 a0) a0.length false, .fn (.func g1) first1 caps1] (.ssl (encs c26 r) r.length false) := by
  rw [atu_AType] at h
  refine RunF.z Tryz.func142 rfl rfl rfl rfl rfl (fun C hr => ?_)
  refine gn (fun t H n => t 0 = .ssl (encs c26 a0) a0.length false ∧ t 1 = .fn (.func g1) first1 caps1) ⟨by simp, by simp⟩ fun t H n q => ?_
  apply eY 6; simp [q]
  refine gn (fun t H n => t 0 = .ssl (encs c26 a0) a0.length false ∧ t 1 = .fn (.func g1) first1 caps1) (by simp [q]) fun t H n q => ?_
  refine Stk.run 1 (fun t H n => t 0 = .ssl (encs c26 a0) a0.length false ∧ t 1 = .fn (.func g1) first1 caps1 ∧ t 5 = .sc (.slice none 0 0)) (fun J hJ => ?_) ?_
  · simp [q]
    exact hJ _ _ _ ⟨by simp [q], by simp [q], by simp [q]⟩
  clear q
  rintro t H n q
  obtain ⟨o1, ho1⟩ : ∃ o : Option Nat, o = none := ⟨none, rfl⟩
  obtain ⟨co1, hco1⟩ : ∃ c : Option Nat, c = none := ⟨none, rfl⟩
  obtain ⟨f0, f1, f5⟩ := q
  replace f5 : t 5 = slc o1 ([] : List AType).length co1 := by rw [ho1]; exact f5
  have b_o1 : OwnC H 26 3 c26 o1 co1 ([] : List AType) := by rw [ho1]; exact rfl
  have l_o1 : ∀ i, o1 = some i → i < n := by rw [ho1]; intro i e; cases e
  apply eY 9; simp [f0, f1, f5, b_o1]
  refine gn (fun t H n => Q0_2 a0 caps1 first1 g1 t ∧ t 5 = slc o1 ([] : List AType).length co1 ∧ t 10 = .sc (.int .i64 0) ∧ OwnC H 26 3 c26 o1 co1 ([] : List AType) ∧ (∀ i, o1 = some i → i < n)) (by and_intros <;> first | assumption | simp [f0, f1, f5, b_o1]) fun t H n q => ?_
  refine Stk.lo (fun μ t H n => ∃ o2 : Option Nat, ∃ co2 : Option Nat, ∃ v3 : List AType, ∃ v4 : Int, atu_AType_L0 F a0 φ1 μ v3 v4 = some r ∧ t 1 = .fn (.func g1) first1 caps1 ∧ t 5 = slc o2 v3.length co2 ∧ t 8 = .ssl (encs c26 a0) a0.length false ∧ t 9 = .sc (.int .i64 (a0.length : Int)) ∧ t 10 = .sc (.int .i64 v4) ∧ OwnC H 26 3 c26 o2 co2 v3 ∧ (∀ i, o2 = some i → i < n)) F ⟨o1, co1, ([] : List AType), 0, h, q.1.1, q.2.1, q.1.2.1, q.1.2.2, q.2.2.1, q.2.2.2.1, q.2.2.2.2⟩ ?_
  clear q h
  rintro J1 hJ1 μ t H n ⟨o2, co2, v3, v4, h, q⟩
  cases μ with
  | zero => exact absurd h (by simp [atu_AType_L0])
  | succ μ =>
  rw [atu_AType_L0] at h
  apply eY 5; simp [q]
  refine cd (decide (v4 < (a0.length : Int))) (by simp [q]) (fun hb8 => ?_) (fun hb8 => ?_)
  ·have h := cT hb8 h
   obtain ⟨x9, hx9, h⟩ := bnd h
   obtain ⟨i0x9, i1x9, i2x9, _⟩ := idx_ok hx9
   have ex9_0_26 : partOf T.T 26 (encs c26 a0) (v4.toNat * 3) = some (.agg (c26 x9)) := (part_elem0 (e := c26) (z := 3) (ty := 26) T.t26 (by decide) (by decide) hx9 0 (by decide)).trans (ld_26_0_26 _)
   apply eY 7; simp [q, i0x9, i1x9, pd26, ex9_0_26]
   refine Stk.oz T.t26 (cs := c26 (AType.mk 0 ⟨#[]⟩ [])) (by rw [u26]; rfl) rfl (by simp [q, i0x9, i1x9, pd26, ex9_0_26]) rfl (fun t' ht' => ?_)
   refine gn (fun t H n => ∃ b10, Q0_2 a0 caps1 first1 g1 t ∧ t 5 = slc o2 v3.length co2 ∧ t 7 = .own b10 0 ∧ t 10 = .sc (.int .i64 v4) ∧ t 13 = .agg (c26 x9) ∧ H b10 = some (.cells (c26 (AType.mk 0 ⟨#[]⟩ [])) 26) ∧ b10 < n ∧ OwnC H 26 3 c26 o2 co2 v3 ∧ (∀ i, o2 = some i → i < n) ∧ (∀ i, o2 = some i → i ≠ b10)) ⟨n, j5 (by simp [ht', q, i0x9, i1x9, pd26, ex9_0_26]) ⟨upd_same _ _ _, Nat.lt_succ_self _, q.2.2.2.2.2.1.mono (fun i hi => upd_ne _ _ (Nat.ne_of_lt (q.2.2.2.2.2.2 i hi))), fun i hi => Nat.lt_succ_of_lt (q.2.2.2.2.2.2 i hi), fun i hi => Nat.ne_of_lt (q.2.2.2.2.2.2 i hi)⟩⟩ fun t H n ⟨b10, ⟨f1, f8, f9⟩, f5, f7, f10, f13, b_b10, l_b10, b_o2, l_o2, d_b10_o2⟩ => ?_
   refine Stk.om (mop_store (z := 3) rfl f7 b_b10 f13 (len26 _) (by rw [len26]; decide) (ok26 _) (st_26_0_26 _ _)) (by simp [f1, f5, f7, f8, f9, f10, f13]) rfl (fun t' ht' => ?_)
   refine gn (fun t H n => Q0_2 a0 caps1 first1 g1 t ∧ t 5 = slc o2 v3.length co2 ∧ t 7 = .own b10 0 ∧ t 10 = .sc (.int .i64 v4) ∧ H b10 = some (.cells (c26 x9) 26) ∧ b10 < n ∧ OwnC H 26 3 c26 o2 co2 v3 ∧ (∀ i, o2 = some i → i < n) ∧ (∀ i, o2 = some i → i ≠ b10)) (j4 (by simp [ht', f1, f8, f9, f5, f7, f10]) ⟨upd_same _ _ _, l_b10, b_o2.mono (fun i hi => upd_ne _ _ (d_b10_o2 i hi)), l_o2, d_b10_o2⟩) fun t H n q => ?_
   obtain ⟨x11, hx11, h⟩ := bnd h
   apply eY 5; simp [q, ld_26_0_26]
   refine Stk.cv (g := g1) (first := first1) (caps := caps1) (args := first1 ++ [.agg (c26 x9)] ++ caps1) (args' := first1 ++ [.agg (c26 x9)] ++ caps1) (v := .agg (c26 x11)) [] (hφ1 _ _ hx11) (by simp [q, ld_26_0_26]) rfl (by simp [q, ld_26_0_26]) (by simp [q, ld_26_0_26]) (viewL_mid (x := [.agg (c26 x9)]) (y := [.agg (c26 x9)]) fr1.1 fr1.2 (.cons (.free (fr26 _)) (.nil))) (.inl ⟨rfl, fr26 _⟩) ?_
   rintro _ rfl
   refine gn (fun t H n => Q0_2 a0 caps1 first1 g1 t ∧ t 10 = .sc (.int .i64 v4) ∧ t 14 = slc o2 v3.length co2 ∧ t 17 = .agg (c26 x11) ∧ OwnC H 26 3 c26 o2 co2 v3 ∧ (∀ i, o2 = some i → i < n)) (by have ⟨⟨_, _, _⟩, _, _, _, _, _, _, _, _⟩ := q; and_intros <;> first | assumption | simp [q, ld_26_0_26]) fun t H n q => ?_
   refine Stk.om (mop_buildN (c := c26) (z := 3) T.t24 rfl T.t26 rfl (by decide) rfl (by decide) [x11] rfl (.cons q.2.2.2.1 rfl rfl rfl (len26 _) (by simp [length_encs]) (splice_next (c := c26) [] _ x11 rfl (by simp)) (.nil))) (by simp [q]) rfl (fun t' ht' => ?_)
   refine gn (fun t H n => ∃ b12, Q0_2 a0 caps1 first1 g1 t ∧ t 10 = .sc (.int .i64 v4) ∧ t 14 = slc o2 v3.length co2 ∧ t 18 = .osl b12 0 ([x11] : List AType).length (some ([x11] : List AType).length) ∧ H b12 = some (.cells (encs c26 ([x11] : List AType)) 26) ∧ b12 < n ∧ OwnC H 26 3 c26 o2 co2 v3 ∧ (∀ i, o2 = some i → i < n) ∧ (∀ i, o2 = some i → i ≠ b12)) ⟨n, j4 (by simp [ht', q]) ⟨upd_same _ _ _, Nat.lt_succ_self _, q.2.2.2.2.1.mono (fun i hi => upd_ne _ _ (Nat.ne_of_lt (q.2.2.2.2.2 i hi))), fun i hi => Nat.lt_succ_of_lt (q.2.2.2.2.2 i hi), fun i hi => Nat.ne_of_lt (q.2.2.2.2.2 i hi)⟩⟩ fun t H n ⟨b12, ⟨f1, f8, f9⟩, f10, f14, f18, b_b12, l_b12, b_o2, l_o2, d_b12_o2⟩ => ?_
   obtain ⟨x13, hx13, h⟩ := bnd h
   obtain ⟨r1x13, r2x13, r3x13⟩ := appM_ok hx13
   obtain ⟨o14, co14, H9, n9, e9, w9, le9, fr9, kp9⟩ := append_ownC (e := c26) (z := 3) (st := 24) T.t24 rfl T.t26 rfl (by decide) rfl (by decide) b_o2 l_o2 (y := .osl b12 0 ([x11] : List AType).length (some ([x11] : List AType).length)) ([x11] : List AType) (elems_row b_b12 _) (all_encs ok26 _) r1x13 r2x13
   rw [r3x13] at e9 w9
   refine Stk.om ((mop_append T.t24 rfl).trans (by rw [show ev t (.tmp 14) = t 14 from rfl, f14]; rw [show ev t (.tmp 18) = t 18 from rfl, f18];  exact e9)) (by simp [f1, f8, f9, f10, f14, f18]) rfl (fun t' ht' => ?_)
   refine gn (fun t H n => Q0_2 a0 caps1 first1 g1 t ∧ t 10 = .sc (.int .i64 v4) ∧ t 19 = slc o14 x13.length co14 ∧ OwnC H 26 3 c26 o14 co14 x13 ∧ (∀ i, o14 = some i → i < n)) (j3 (by simp [ht', f1, f8, f9, f10]) ⟨w9, fun i hi => (fr9 i hi).2⟩) fun t H n q => ?_
   apply eY 7; simp [q]
   exact lm (hJ1 _ _ _ _ ⟨o14, co14, x13, (IntKind.i64.wrap (v4 + 1)), h, by have ⟨⟨_, _, _⟩, _, _, _, _⟩ := q; and_intros <;> first | assumption | simp [q]⟩)
  ·have h := cF hb8 h
   refine Stk.ex rfl ?_
   apply eY 6; simp [q]
   obtain rfl := sj h
   exact (hr _ _ _ (slc o2 v3.length co2) (o2.toList) (by simp [q]) (.inr (.inr (view_ownC fr26 q.2.2.2.2.2.1 (fun i hi => by simp [hi]))))).1
theorem okB_ast_ownType (F : Nat) (ρ66 : AType → Option AType) (hρ66 : ∀ a0 r, ρ66 a0 = some r → RunF Tryz.prog T.T 66 [.agg (c26 a0)] (.agg (c26 r))) (a0 : AType) (r : AType) (h : ast_ownType_B F ρ66 a0 = some r) : RunF Tryz.prog T.T 66 [.agg (c26 a0)] (.agg (c26 r)) := by
  rw [ast_ownType_B] at h
  refine RunF.z Tryz.func66 rfl rfl rfl rfl rfl (fun C hr => ?_)
  refine gn (fun t H n => t 0 = .agg (c26 a0)) (by simp) fun t H n q => ?_
  apply eY 2; simp [q]
  refine gn (fun t H n => t 0 = .agg (c26 a0)) (by simp [q]) fun t H n q => ?_
  refine Stk.om (mop_box T.t26 (cs := c26 a0) (by show partOk (t 0) = true; rw [q]; rfl) (by show cellsOf (t 0) = _; rw [q]; rfl)) (by simp [q]) rfl (fun t' ht' => ?_)
  refine gn (fun t H n => ∃ b1, t 1 = .own b1 0 ∧ H b1 = some (.cells (c26 a0) 26) ∧ b1 < n) ⟨n, by simp [ht'], upd_same _ _ _, Nat.lt_succ_self _⟩ fun t H n ⟨b1, q⟩ => ?_
  refine Stk.oz T.t26 (cs := c26 (AType.mk 0 ⟨#[]⟩ [])) (by rw [u26]; rfl) rfl (by simp [q]) rfl (fun t' ht' => ?_)
  refine gn (fun t H n => ∃ b2, t 1 = .own b1 0 ∧ t 2 = .own b2 0 ∧ H b1 = some (.cells (c26 a0) 26) ∧ b1 < n ∧ H b2 = some (.cells (c26 (AType.mk 0 ⟨#[]⟩ [])) 26) ∧ b2 < n ∧ b1 ≠ b2) ⟨n, j2 (by simp [ht', q]) ⟨(upd_ne _ _ (Nat.ne_of_lt q.2.2)).trans q.2.1, Nat.lt_succ_of_lt q.2.2, upd_same _ _ _, Nat.lt_succ_self _, Nat.ne_of_lt q.2.2⟩⟩ fun t H n ⟨b2, q⟩ => ?_
  obtain ⟨x3, hx3, h⟩ := bnd h
  apply eY 5; simp [q, ld_26_2_24]
  refine cw (ok_atu_AType F _ _ 66 [] [] (by simp [freeL, free]) (fun y0 r h => hρ66 y0 r h) _ hx3) (by simp [q, ld_26_2_24]) rfl rfl (by simp [q, ld_26_2_24]) (.cons (.free (freeL_encs fr26 _)) (.cons (.fn .nil (.nil)) (.nil))) (freeL_encs fr26 _) ?_
  rintro _ rfl
  apply eY 1; simp [q, ld_26_2_24]
  refine Stk.om (mop_store (z := 1) (o := 2) (v := .ssl (encs c26 x3) x3.length false) rfl (by simp [q, ld_26_2_24]) q.2.2.1 (by simp [q, ld_26_2_24]) rfl (by rw [len26]; decide) rfl (st_26_2_24 _ _)) (by simp [q, ld_26_2_24]) rfl (fun t' ht' => ?_)
  refine gn (fun t H n => t 1 = .own b1 0 ∧ t 2 = .own b2 0 ∧ H b1 = some (.cells (c26 ({ a0 with Parts := x3 })) 26) ∧ b1 < n ∧ H b2 = some (.cells (c26 (AType.mk 0 ⟨#[]⟩ [])) 26) ∧ b2 < n ∧ b1 ≠ b2) (j2 (by simp [ht', q, ld_26_2_24]) ⟨upd_same _ _ _, q.2.2.2.1, (upd_ne _ _ (Ne.symm q.2.2.2.2.2.2)).trans q.2.2.2.2.1, q.2.2.2.2.2.1, q.2.2.2.2.2.2⟩) fun t H n q => ?_
  apply eY 4; simp [q, ld_26_0_26]
  refine Stk.om (mop_store (z := 3) (o := 0) (v := .agg (c26 ({ a0 with Parts := x3 }))) rfl (by simp [q, ld_26_0_26]) q.2.2.2.2.1 (by simp [q, ld_26_0_26]) (len26 _) (by rw [len26]; decide) (ok26 _) (st_26_0_26 _ _)) (by simp [q, ld_26_0_26]) rfl (fun t' ht' => ?_)
  refine gn (fun t H n => t 2 = .own b2 0 ∧ H b2 = some (.cells (c26 ({ a0 with Parts := x3 })) 26) ∧ b2 < n) ⟨by simp [ht', q, ld_26_0_26], upd_same _ _ _, q.2.2.2.2.2.1⟩ fun t H n q => ?_
  apply eY 2; simp [q]
  obtain rfl := sj h
  exact (hF hr (by simp [q, ld_26_0_26]) (by exact fr26 _)).1
theorem okG_ast_ownType : ∀ F : Nat, (∀ (a0 : AType) (r : AType), ast_ownType F a0 = some r → RunF Tryz.prog T.T 66 [.agg (c26 a0)] (.agg (c26 r)))
  | 0 => (fun a0 r h => by rw [ast_ownType] at h; cases h)
  | F + 1 => (fun a0 r h => okB_ast_ownType F (ast_ownType F) (okG_ast_ownType F) a0 r (by rw [ast_ownType] at h; exact h))
theorem ok_ast_ownType (F : Nat) (a0 : AType) (r : AType) (h : ast_ownType F a0 = some r) : RunF Tryz.prog T.T 66 [.agg (c26 a0)] (.agg (c26 r)) := (okG_ast_ownType F) a0 r h
theorem ok_slices_Clone_byte_byte (F : Nat) (a0 : (List Int)) (r : (List Int)) (h : slices_Clone_byte_byte F a0 = some r) : RunF Tryz.prog T.T 143 [.ssl (encs c5 a0) a0.length false] (.ssl (encs c5 r) r.length false) := by
  rw [slices_Clone_byte_byte] at h
  obtain ⟨r1, r2, r3⟩ := appM_ok h
  simp only [List.nil_append] at r3
  subst r3
  cases a0 with
  | nil =>
    refine RunF.nilArg [] [] (fun a ha => ?_)
    rcases ha with rfl | rfl
    · refine RunF.z Tryz.func143 rfl rfl rfl rfl rfl (fun C hr => ?_)
      refine evZ_sound (f := 19) ?_
      simp [Op.maxDepth]
      refine cd true ?_ (fun _ => ?_) (fun hb => by cases hb)
      · simp
      refine evZ_sound (f := 19) ?_
      simp
      exact (hr _ _ _ (.sc (.slice none 0 0)) [] (by simp) (.inr (.inr .nilS))).1
    · refine RunF.z Tryz.func143 rfl rfl rfl rfl rfl (fun C hr => ?_)
      refine evZ_sound (f := 19) ?_
      simp [Op.maxDepth]
      refine cd false ?_ (fun hb => by cases hb) (fun _ => ?_)
      · simp
      refine evZ_sound (f := 19) ?_
      simp [appendAV, fillAV, roomMax]
      exact (hr _ _ _ (.osl 0 0 0 (some 0)) [0] (by simp) (.inr (.inr (.oslF (cs := []) (ty := 5) 0 (by simp [splice]) (by simp [splice]) .nil)))).1
  | cons x xs =>
    refine RunF.z Tryz.func143 rfl rfl rfl rfl rfl (fun C hr => ?_)
    refine evZ_sound (f := 19) ?_
    simp [Op.maxDepth]
    refine cd false ?_ (fun hb => by cases hb) (fun _ => ?_)
    · simp
    obtain ⟨o', c', H9, n9, e9, w9, le9, fr9, kp9⟩ := append_ownC (e := c5) (z := 1) (st := 29) T.t29 rfl T.t5 rfl (by decide) rfl (by decide) (H := upd (fun _ => none) 0 (some (.cells (encs c5 ([] : (List Int))) 5))) (n := 1) (ownC_row (xs := ([] : (List Int))) (b := 0) (upd_same _ _ _)) (fun i hi => by cases hi; omega) (y := .ssl (encs c5 (x :: xs)) (x :: xs).length false) (x :: xs) elems_ssl (all_encs ok5 _) r1 r2
    simp only [List.nil_append] at e9 w9
    refine Stk.sk ?_
    refine Stk.sq ?_
    refine Stk.rg ?_
    refine Stk.om (mop_buildN (c := c5) (z := 1) T.t29 rfl T.t5 rfl (by decide) rfl (by decide) [] rfl .nil) rfl rfl (fun t' ht' => ?_)
    refine Stk.run 1 (fun t H n => t 5 = .osl 0 0 0 (some 0) ∧ t 6 = .ssl (encs c5 (x :: xs)) (x :: xs).length false ∧ H = upd (fun _ => none) 0 (some (.cells (encs c5 ([] : (List Int))) 5)) ∧ n = 1) (fun J hJ => ?_) ?_
    · simp [ht']
      exact hJ _ _ _ ⟨by simp [ht'], by simp [ht'], rfl, rfl⟩
    clear ht' t'
    rintro t H n ⟨f5, f6, rfl, rfl⟩
    refine Stk.om ((mop_append T.t29 rfl).trans (by rw [show ev t (.tmp 5) = t 5 from rfl, f5]; rw [show ev t (.tmp 6) = t 6 from rfl, f6]; exact e9)) rfl rfl (fun t' ht' => ?_)
    refine Stk.run 1 (fun t H n => t 2 = slc o' (x :: xs).length c' ∧ OwnC H 5 1 c5 o' c' (x :: xs)) (fun J hJ => ?_) ?_
    · simp [ht']
      exact hJ _ _ _ ⟨by simp [ht'], w9⟩
    rintro t H n ⟨f2, b2⟩
    refine Stk.on ?_
    refine Stk.rt ?_
    exact (hr _ _ _ (slc o' (x :: xs).length c') o'.toList (by simp [f2]) (.inr (.inr (view_ownC fr5 b2 (fun i hi => by simp [hi]))))).1
attribute [-simp] Go.Proofs.YtappiofmkoelnaaGreatDoorW.Ah.splice
open Go.Proofs.YtappiofmkoelnaaGreatDoorW.Ah Go.Proofs.YtappiofmkoelnaaGreatDoor
set_option linter.unusedVariables false
set_option linter.unusedSimpArgs false
set_option maxRecDepth 8000
attribute [local simp] T.t3 T.t22 T.t28 T.t29 T.t30 T.t31 T.t33 T.t37 T.t39 T.t68 T.t70 T.t72 T.t92 List.range List.range.loop
attribute [-simp] appendAV fillAV
@[simp] abbrev Q1_1 (a0 : (List AExpr)) (caps1 : List AV) (first1 : List AV) (g1 : FuncId) (t : Nat → AV) : Prop := t 1 = .fn (.func g1) first1 caps1 ∧ t 8 = .ssl (encs c33 a0) a0.length false ∧ t 9 = .sc (.int .i64 (a0.length : Int))
theorem ok_atu_AExpr (F : Nat) (a0 : (List AExpr)) (φ1 : AExpr → Option AExpr) (g1 : FuncId) (first1 caps1 : List AV) (fr1 : freeL first1 = true ∧ freeL caps1 = true) (hφ1 : ∀ y0 r, φ1 y0 = some r → RunF Tryz.prog T.T g1 (first1 ++ [.agg (c33 y0)] ++ caps1) (.agg (c33 r))) (r : (List AExpr)) (h : atu_AExpr F a0 φ1 = some r) : RunF Tryz.prog T.T 144 [.ssl (encs c33 a0) a0.length false, .fn (.func g1) first1 caps1] (.ssl (encs c33 r) r.length false) := by
  rw [atu_AExpr] at h
  refine RunF.z Tryz.func144 rfl rfl rfl rfl rfl (fun C hr => ?_)
  refine gn (fun t H n => t 0 = .ssl (encs c33 a0) a0.length false ∧ t 1 = .fn (.func g1) first1 caps1) ⟨by simp, by simp⟩ fun t H n q => ?_
  apply eY 6; simp [q]
  refine gn (fun t H n => t 0 = .ssl (encs c33 a0) a0.length false ∧ t 1 = .fn (.func g1) first1 caps1) (by simp [q]) fun t H n q => ?_
  refine Stk.run 1 (fun t H n => t 0 = .ssl (encs c33 a0) a0.length false ∧ t 1 = .fn (.func g1) first1 caps1 ∧ t 5 = .sc (.slice none 0 0)) (fun J hJ => ?_) ?_
  · simp [q]
    exact hJ _ _ _ ⟨by simp [q], by simp [q], by simp [q]⟩
  clear q
  rintro t H n q
  obtain ⟨o1, ho1⟩ : ∃ o : Option Nat, o = none := ⟨none, rfl⟩
  obtain ⟨co1, hco1⟩ : ∃ c : Option Nat, c = none := ⟨none, rfl⟩
  obtain ⟨f0, f1, f5⟩ := q
  replace f5 : t 5 = slc o1 ([] : List AExpr).length co1 := by rw [ho1]; exact f5
  have b_o1 : OwnC H 33 8 c33 o1 co1 ([] : List AExpr) := by rw [ho1]; exact rfl
  have l_o1 : ∀ i, o1 = some i → i < n := by rw [ho1]; intro i e; cases e
  apply eY 9; simp [f0, f1, f5, b_o1]
  refine gn (fun t H n => Q1_1 a0 caps1 first1 g1 t ∧ t 5 = slc o1 ([] : List AExpr).length co1 ∧ t 10 = .sc (.int .i64 0) ∧ OwnC H 33 8 c33 o1 co1 ([] : List AExpr) ∧ (∀ i, o1 = some i → i < n)) (by and_intros <;> first | assumption | simp [f0, f1, f5, b_o1]) fun t H n q => ?_
  refine Stk.lo (fun μ t H n => ∃ o2 : Option Nat, ∃ co2 : Option Nat, ∃ v3 : List AExpr, ∃ v4 : Int, atu_AExpr_L0 F a0 φ1 μ v3 v4 = some r ∧ t 1 = .fn (.func g1) first1 caps1 ∧ t 5 = slc o2 v3.length co2 ∧ t 8 = .ssl (encs c33 a0) a0.length false ∧ t 9 = .sc (.int .i64 (a0.length : Int)) ∧ t 10 = .sc (.int .i64 v4) ∧ OwnC H 33 8 c33 o2 co2 v3 ∧ (∀ i, o2 = some i → i < n)) F ⟨o1, co1, ([] : List AExpr), 0, h, q.1.1, q.2.1, q.1.2.1, q.1.2.2, q.2.2.1, q.2.2.2.1, q.2.2.2.2⟩ ?_
  clear q h
  rintro J1 hJ1 μ t H n ⟨o2, co2, v3, v4, h, q⟩
  cases μ with
  | zero => exact absurd h (by simp [atu_AExpr_L0])
  | succ μ =>
  rw [atu_AExpr_L0] at h
  apply eY 5; simp [q]
  refine cd (decide (v4 < (a0.length : Int))) (by simp [q]) (fun hb8 => ?_) (fun hb8 => ?_)
  ·have h := cT hb8 h
   obtain ⟨x9, hx9, h⟩ := bnd h
   obtain ⟨i0x9, i1x9, i2x9, _⟩ := idx_ok hx9
   have ex9_0_33 : partOf T.T 33 (encs c33 a0) (v4.toNat * 8) = some (.agg (c33 x9)) := (part_elem0 (e := c33) (z := 8) (ty := 33) T.t33 (by decide) (by decide) hx9 0 (by decide)).trans (ld_33_0_33 _)
   apply eY 7; simp [q, i0x9, i1x9, pd33, ex9_0_33]
   refine Stk.oz T.t33 (cs := c33 (AExpr.mk 0 (APos.mk 0 0) 0 [] ⟨#[]⟩ [] [])) (by rw [u33]; rfl) rfl (by simp [q, i0x9, i1x9, pd33, ex9_0_33]) rfl (fun t' ht' => ?_)
   refine gn (fun t H n => ∃ b10, Q1_1 a0 caps1 first1 g1 t ∧ t 5 = slc o2 v3.length co2 ∧ t 7 = .own b10 0 ∧ t 10 = .sc (.int .i64 v4) ∧ t 13 = .agg (c33 x9) ∧ H b10 = some (.cells (c33 (AExpr.mk 0 (APos.mk 0 0) 0 [] ⟨#[]⟩ [] [])) 33) ∧ b10 < n ∧ OwnC H 33 8 c33 o2 co2 v3 ∧ (∀ i, o2 = some i → i < n) ∧ (∀ i, o2 = some i → i ≠ b10)) ⟨n, j5 (by simp [ht', q, i0x9, i1x9, pd33, ex9_0_33]) ⟨upd_same _ _ _, Nat.lt_succ_self _, q.2.2.2.2.2.1.mono (fun i hi => upd_ne _ _ (Nat.ne_of_lt (q.2.2.2.2.2.2 i hi))), fun i hi => Nat.lt_succ_of_lt (q.2.2.2.2.2.2 i hi), fun i hi => Nat.ne_of_lt (q.2.2.2.2.2.2 i hi)⟩⟩ fun t H n ⟨b10, ⟨f1, f8, f9⟩, f5, f7, f10, f13, b_b10, l_b10, b_o2, l_o2, d_b10_o2⟩ => ?_
   refine Stk.om (mop_store (z := 8) rfl f7 b_b10 f13 (len33 _) (by rw [len33]; decide) (ok33 _) (st_33_0_33 _ _)) (by simp [f1, f5, f7, f8, f9, f10, f13]) rfl (fun t' ht' => ?_)
   refine gn (fun t H n => Q1_1 a0 caps1 first1 g1 t ∧ t 5 = slc o2 v3.length co2 ∧ t 7 = .own b10 0 ∧ t 10 = .sc (.int .i64 v4) ∧ H b10 = some (.cells (c33 x9) 33) ∧ b10 < n ∧ OwnC H 33 8 c33 o2 co2 v3 ∧ (∀ i, o2 = some i → i < n) ∧ (∀ i, o2 = some i → i ≠ b10)) (j4 (by simp [ht', f1, f8, f9, f5, f7, f10]) ⟨upd_same _ _ _, l_b10, b_o2.mono (fun i hi => upd_ne _ _ (d_b10_o2 i hi)), l_o2, d_b10_o2⟩) fun t H n q => ?_
   obtain ⟨x11, hx11, h⟩ := bnd h
   apply eY 5; simp [q, ld_33_0_33]
   refine Stk.cv (g := g1) (first := first1) (caps := caps1) (args := first1 ++ [.agg (c33 x9)] ++ caps1) (args' := first1 ++ [.agg (c33 x9)] ++ caps1) (v := .agg (c33 x11)) [] (hφ1 _ _ hx11) (by simp [q, ld_33_0_33]) rfl (by simp [q, ld_33_0_33]) (by simp [q, ld_33_0_33]) (viewL_mid (x := [.agg (c33 x9)]) (y := [.agg (c33 x9)]) fr1.1 fr1.2 (.cons (.free (fr33 _)) (.nil))) (.inl ⟨rfl, fr33 _⟩) ?_
   rintro _ rfl
   refine gn (fun t H n => Q1_1 a0 caps1 first1 g1 t ∧ t 10 = .sc (.int .i64 v4) ∧ t 14 = slc o2 v3.length co2 ∧ t 17 = .agg (c33 x11) ∧ OwnC H 33 8 c33 o2 co2 v3 ∧ (∀ i, o2 = some i → i < n)) (by have ⟨⟨_, _, _⟩, _, _, _, _, _, _, _, _⟩ := q; and_intros <;> first | assumption | simp [q, ld_33_0_33]) fun t H n q => ?_
   refine Stk.om (mop_buildN (c := c33) (z := 8) T.t30 rfl T.t33 rfl (by decide) rfl (by decide) [x11] rfl (.cons q.2.2.2.1 rfl rfl rfl (len33 _) (by simp [length_encs]) (splice_next (c := c33) [] _ x11 rfl (by simp)) (.nil))) (by simp [q]) rfl (fun t' ht' => ?_)
   refine gn (fun t H n => ∃ b12, Q1_1 a0 caps1 first1 g1 t ∧ t 10 = .sc (.int .i64 v4) ∧ t 14 = slc o2 v3.length co2 ∧ t 18 = .osl b12 0 ([x11] : List AExpr).length (some ([x11] : List AExpr).length) ∧ H b12 = some (.cells (encs c33 ([x11] : List AExpr)) 33) ∧ b12 < n ∧ OwnC H 33 8 c33 o2 co2 v3 ∧ (∀ i, o2 = some i → i < n) ∧ (∀ i, o2 = some i → i ≠ b12)) ⟨n, j4 (by simp [ht', q]) ⟨upd_same _ _ _, Nat.lt_succ_self _, q.2.2.2.2.1.mono (fun i hi => upd_ne _ _ (Nat.ne_of_lt (q.2.2.2.2.2 i hi))), fun i hi => Nat.lt_succ_of_lt (q.2.2.2.2.2 i hi), fun i hi => Nat.ne_of_lt (q.2.2.2.2.2 i hi)⟩⟩ fun t H n ⟨b12, ⟨f1, f8, f9⟩, f10, f14, f18, b_b12, l_b12, b_o2, l_o2, d_b12_o2⟩ => ?_
   obtain ⟨x13, hx13, h⟩ := bnd h
   obtain ⟨r1x13, r2x13, r3x13⟩ := appM_ok hx13
   obtain ⟨o14, co14, H9, n9, e9, w9, le9, fr9, kp9⟩ := append_ownC (e := c33) (z := 8) (st := 30) T.t30 rfl T.t33 rfl (by decide) rfl (by decide) b_o2 l_o2 (y := .osl b12 0 ([x11] : List AExpr).length (some ([x11] : List AExpr).length)) ([x11] : List AExpr) (elems_row b_b12 _) (all_encs ok33 _) r1x13 r2x13
   rw [r3x13] at e9 w9
   refine Stk.om ((mop_append T.t30 rfl).trans (by rw [show ev t (.tmp 14) = t 14 from rfl, f14]; rw [show ev t (.tmp 18) = t 18 from rfl, f18];  exact e9)) (by simp [f1, f8, f9, f10, f14, f18]) rfl (fun t' ht' => ?_)
   refine gn (fun t H n => Q1_1 a0 caps1 first1 g1 t ∧ t 10 = .sc (.int .i64 v4) ∧ t 19 = slc o14 x13.length co14 ∧ OwnC H 33 8 c33 o14 co14 x13 ∧ (∀ i, o14 = some i → i < n)) (j3 (by simp [ht', f1, f8, f9, f10]) ⟨w9, fun i hi => (fr9 i hi).2⟩) fun t H n q => ?_
   apply eY 7; simp [q]
   exact lm (hJ1 _ _ _ _ ⟨o14, co14, x13, (IntKind.i64.wrap (v4 + 1)), h, by have ⟨⟨_, _, _⟩, _, _, _, _⟩ := q; and_intros <;> first | assumption | simp [q]⟩)
  ·have h := cF hb8 h
   refine Stk.ex rfl ?_
   apply eY 6; simp [q]
   obtain rfl := sj h
   exact (hr _ _ _ (slc o2 v3.length co2) (o2.toList) (by simp [q]) (.inr (.inr (view_ownC fr33 q.2.2.2.2.2.1 (fun i hi => by simp [hi]))))).1
@[simp] abbrev Q1_2 (a0 : (List AArm)) (caps1 : List AV) (first1 : List AV) (g1 : FuncId) (t : Nat → AV) : Prop := t 1 = .fn (.func g1) first1 caps1 ∧ t 8 = .ssl (encs c68 a0) a0.length false ∧ t 9 = .sc (.int .i64 (a0.length : Int))
theorem ok_atu_AArm (F : Nat) (a0 : (List AArm)) (φ1 : AArm → Option AArm) (g1 : FuncId) (first1 caps1 : List AV) (fr1 : freeL first1 = true ∧ freeL caps1 = true) (hφ1 : ∀ y0 r, φ1 y0 = some r → RunF Tryz.prog T.T g1 (first1 ++ [.agg (c68 y0)] ++ caps1) (.agg (c68 r))) (r : (List AArm)) (h : atu_AArm F a0 φ1 = some r) : RunF Tryz.prog T.T 145 [.ssl (encs c68 a0) a0.length false, .fn (.func g1) first1 caps1] (.ssl (encs c68 r) r.length false) := by
  rw [atu_AArm] at h
  refine RunF.z Tryz.func145 rfl rfl rfl rfl rfl (fun C hr => ?_)
  refine gn (fun t H n => t 0 = .ssl (encs c68 a0) a0.length false ∧ t 1 = .fn (.func g1) first1 caps1) ⟨by simp, by simp⟩ fun t H n q => ?_
  apply eY 6; simp [q]
  refine gn (fun t H n => t 0 = .ssl (encs c68 a0) a0.length false ∧ t 1 = .fn (.func g1) first1 caps1) (by simp [q]) fun t H n q => ?_
  refine Stk.run 1 (fun t H n => t 0 = .ssl (encs c68 a0) a0.length false ∧ t 1 = .fn (.func g1) first1 caps1 ∧ t 5 = .sc (.slice none 0 0)) (fun J hJ => ?_) ?_
  · simp [q]
    exact hJ _ _ _ ⟨by simp [q], by simp [q], by simp [q]⟩
  clear q
  rintro t H n q
  obtain ⟨o1, ho1⟩ : ∃ o : Option Nat, o = none := ⟨none, rfl⟩
  obtain ⟨co1, hco1⟩ : ∃ c : Option Nat, c = none := ⟨none, rfl⟩
  obtain ⟨f0, f1, f5⟩ := q
  replace f5 : t 5 = slc o1 ([] : List AArm).length co1 := by rw [ho1]; exact f5
  have b_o1 : OwnC H 68 14 c68 o1 co1 ([] : List AArm) := by rw [ho1]; exact rfl
  have l_o1 : ∀ i, o1 = some i → i < n := by rw [ho1]; intro i e; cases e
  apply eY 9; simp [f0, f1, f5, b_o1]
  refine gn (fun t H n => Q1_2 a0 caps1 first1 g1 t ∧ t 5 = slc o1 ([] : List AArm).length co1 ∧ t 10 = .sc (.int .i64 0) ∧ OwnC H 68 14 c68 o1 co1 ([] : List AArm) ∧ (∀ i, o1 = some i → i < n)) (by and_intros <;> first | assumption | simp [f0, f1, f5, b_o1]) fun t H n q => ?_
  refine Stk.lo (fun μ t H n => ∃ o2 : Option Nat, ∃ co2 : Option Nat, ∃ v3 : List AArm, ∃ v4 : Int, atu_AArm_L0 F a0 φ1 μ v3 v4 = some r ∧ t 1 = .fn (.func g1) first1 caps1 ∧ t 5 = slc o2 v3.length co2 ∧ t 8 = .ssl (encs c68 a0) a0.length false ∧ t 9 = .sc (.int .i64 (a0.length : Int)) ∧ t 10 = .sc (.int .i64 v4) ∧ OwnC H 68 14 c68 o2 co2 v3 ∧ (∀ i, o2 = some i → i < n)) F ⟨o1, co1, ([] : List AArm), 0, h, q.1.1, q.2.1, q.1.2.1, q.1.2.2, q.2.2.1, q.2.2.2.1, q.2.2.2.2⟩ ?_
  clear q h
  rintro J1 hJ1 μ t H n ⟨o2, co2, v3, v4, h, q⟩
  cases μ with
  | zero => exact absurd h (by simp [atu_AArm_L0])
  | succ μ =>
  rw [atu_AArm_L0] at h
  apply eY 5; simp [q]
  refine cd (decide (v4 < (a0.length : Int))) (by simp [q]) (fun hb8 => ?_) (fun hb8 => ?_)
  ·have h := cT hb8 h
   obtain ⟨x9, hx9, h⟩ := bnd h
   obtain ⟨i0x9, i1x9, i2x9, _⟩ := idx_ok hx9
   have ex9_0_68 : partOf T.T 68 (encs c68 a0) (v4.toNat * 14) = some (.agg (c68 x9)) := (part_elem0 (e := c68) (z := 14) (ty := 68) T.t68 (by decide) (by decide) hx9 0 (by decide)).trans (ld_68_0_68 _)
   apply eY 7; simp [q, i0x9, i1x9, pd68, ex9_0_68]
   refine Stk.oz T.t68 (cs := c68 (AArm.mk (APat.mk 0 (APos.mk 0 0) ⟨#[]⟩ 0 []) (AExpr.mk 0 (APos.mk 0 0) 0 [] ⟨#[]⟩ [] []))) (by rw [u68]; rfl) rfl (by simp [q, i0x9, i1x9, pd68, ex9_0_68]) rfl (fun t' ht' => ?_)
   refine gn (fun t H n => ∃ b10, Q1_2 a0 caps1 first1 g1 t ∧ t 5 = slc o2 v3.length co2 ∧ t 7 = .own b10 0 ∧ t 10 = .sc (.int .i64 v4) ∧ t 13 = .agg (c68 x9) ∧ H b10 = some (.cells (c68 (AArm.mk (APat.mk 0 (APos.mk 0 0) ⟨#[]⟩ 0 []) (AExpr.mk 0 (APos.mk 0 0) 0 [] ⟨#[]⟩ [] []))) 68) ∧ b10 < n ∧ OwnC H 68 14 c68 o2 co2 v3 ∧ (∀ i, o2 = some i → i < n) ∧ (∀ i, o2 = some i → i ≠ b10)) ⟨n, j5 (by simp [ht', q, i0x9, i1x9, pd68, ex9_0_68]) ⟨upd_same _ _ _, Nat.lt_succ_self _, q.2.2.2.2.2.1.mono (fun i hi => upd_ne _ _ (Nat.ne_of_lt (q.2.2.2.2.2.2 i hi))), fun i hi => Nat.lt_succ_of_lt (q.2.2.2.2.2.2 i hi), fun i hi => Nat.ne_of_lt (q.2.2.2.2.2.2 i hi)⟩⟩ fun t H n ⟨b10, ⟨f1, f8, f9⟩, f5, f7, f10, f13, b_b10, l_b10, b_o2, l_o2, d_b10_o2⟩ => ?_
   refine Stk.om (mop_store (z := 14) rfl f7 b_b10 f13 (len68 _) (by rw [len68]; decide) (ok68 _) (st_68_0_68 _ _)) (by simp [f1, f5, f7, f8, f9, f10, f13]) rfl (fun t' ht' => ?_)
   refine gn (fun t H n => Q1_2 a0 caps1 first1 g1 t ∧ t 5 = slc o2 v3.length co2 ∧ t 7 = .own b10 0 ∧ t 10 = .sc (.int .i64 v4) ∧ H b10 = some (.cells (c68 x9) 68) ∧ b10 < n ∧ OwnC H 68 14 c68 o2 co2 v3 ∧ (∀ i, o2 = some i → i < n) ∧ (∀ i, o2 = some i → i ≠ b10)) (j4 (by simp [ht', f1, f8, f9, f5, f7, f10]) ⟨upd_same _ _ _, l_b10, b_o2.mono (fun i hi => upd_ne _ _ (d_b10_o2 i hi)), l_o2, d_b10_o2⟩) fun t H n q => ?_
   obtain ⟨x11, hx11, h⟩ := bnd h
   apply eY 5; simp [q, ld_68_0_68]
   refine Stk.cv (g := g1) (first := first1) (caps := caps1) (args := first1 ++ [.agg (c68 x9)] ++ caps1) (args' := first1 ++ [.agg (c68 x9)] ++ caps1) (v := .agg (c68 x11)) [] (hφ1 _ _ hx11) (by simp [q, ld_68_0_68]) rfl (by simp [q, ld_68_0_68]) (by simp [q, ld_68_0_68]) (viewL_mid (x := [.agg (c68 x9)]) (y := [.agg (c68 x9)]) fr1.1 fr1.2 (.cons (.free (fr68 _)) (.nil))) (.inl ⟨rfl, fr68 _⟩) ?_
   rintro _ rfl
   refine gn (fun t H n => Q1_2 a0 caps1 first1 g1 t ∧ t 10 = .sc (.int .i64 v4) ∧ t 14 = slc o2 v3.length co2 ∧ t 17 = .agg (c68 x11) ∧ OwnC H 68 14 c68 o2 co2 v3 ∧ (∀ i, o2 = some i → i < n)) (by have ⟨⟨_, _, _⟩, _, _, _, _, _, _, _, _⟩ := q; and_intros <;> first | assumption | simp [q, ld_68_0_68]) fun t H n q => ?_
   refine Stk.om (mop_buildN (c := c68) (z := 14) T.t31 rfl T.t68 rfl (by decide) rfl (by decide) [x11] rfl (.cons q.2.2.2.1 rfl rfl rfl (len68 _) (by simp [length_encs]) (splice_next (c := c68) [] _ x11 rfl (by simp)) (.nil))) (by simp [q]) rfl (fun t' ht' => ?_)
   refine gn (fun t H n => ∃ b12, Q1_2 a0 caps1 first1 g1 t ∧ t 10 = .sc (.int .i64 v4) ∧ t 14 = slc o2 v3.length co2 ∧ t 18 = .osl b12 0 ([x11] : List AArm).length (some ([x11] : List AArm).length) ∧ H b12 = some (.cells (encs c68 ([x11] : List AArm)) 68) ∧ b12 < n ∧ OwnC H 68 14 c68 o2 co2 v3 ∧ (∀ i, o2 = some i → i < n) ∧ (∀ i, o2 = some i → i ≠ b12)) ⟨n, j4 (by simp [ht', q]) ⟨upd_same _ _ _, Nat.lt_succ_self _, q.2.2.2.2.1.mono (fun i hi => upd_ne _ _ (Nat.ne_of_lt (q.2.2.2.2.2 i hi))), fun i hi => Nat.lt_succ_of_lt (q.2.2.2.2.2 i hi), fun i hi => Nat.ne_of_lt (q.2.2.2.2.2 i hi)⟩⟩ fun t H n ⟨b12, ⟨f1, f8, f9⟩, f10, f14, f18, b_b12, l_b12, b_o2, l_o2, d_b12_o2⟩ => ?_
   obtain ⟨x13, hx13, h⟩ := bnd h
   obtain ⟨r1x13, r2x13, r3x13⟩ := appM_ok hx13
   obtain ⟨o14, co14, H9, n9, e9, w9, le9, fr9, kp9⟩ := append_ownC (e := c68) (z := 14) (st := 31) T.t31 rfl T.t68 rfl (by decide) rfl (by decide) b_o2 l_o2 (y := .osl b12 0 ([x11] : List AArm).length (some ([x11] : List AArm).length)) ([x11] : List AArm) (elems_row b_b12 _) (all_encs ok68 _) r1x13 r2x13
   rw [r3x13] at e9 w9
   refine Stk.om ((mop_append T.t31 rfl).trans (by rw [show ev t (.tmp 14) = t 14 from rfl, f14]; rw [show ev t (.tmp 18) = t 18 from rfl, f18];  exact e9)) (by simp [f1, f8, f9, f10, f14, f18]) rfl (fun t' ht' => ?_)
   refine gn (fun t H n => Q1_2 a0 caps1 first1 g1 t ∧ t 10 = .sc (.int .i64 v4) ∧ t 19 = slc o14 x13.length co14 ∧ OwnC H 68 14 c68 o14 co14 x13 ∧ (∀ i, o14 = some i → i < n)) (j3 (by simp [ht', f1, f8, f9, f10]) ⟨w9, fun i hi => (fr9 i hi).2⟩) fun t H n q => ?_
   apply eY 7; simp [q]
   exact lm (hJ1 _ _ _ _ ⟨o14, co14, x13, (IntKind.i64.wrap (v4 + 1)), h, by have ⟨⟨_, _, _⟩, _, _, _, _⟩ := q; and_intros <;> first | assumption | simp [q]⟩)
  ·have h := cF hb8 h
   refine Stk.ex rfl ?_
   apply eY 6; simp [q]
   obtain rfl := sj h
   exact (hr _ _ _ (slc o2 v3.length co2) (o2.toList) (by simp [q]) (.inr (.inr (view_ownC fr68 q.2.2.2.2.2.1 (fun i hi => by simp [hi]))))).1
@[simp] abbrev Q1_3 (a0 : (List APat)) (caps1 : List AV) (first1 : List AV) (g1 : FuncId) (t : Nat → AV) : Prop := t 1 = .fn (.func g1) first1 caps1 ∧ t 8 = .ssl (encs c39 a0) a0.length false ∧ t 9 = .sc (.int .i64 (a0.length : Int))
theorem ok_atu_APat (F : Nat) (a0 : (List APat)) (φ1 : APat → Option APat) (g1 : FuncId) (first1 caps1 : List AV) (fr1 : freeL first1 = true ∧ freeL caps1 = true) (hφ1 : ∀ y0 r, φ1 y0 = some r → RunF Tryz.prog T.T g1 (first1 ++ [.agg (c39 y0)] ++ caps1) (.agg (c39 r))) (r : (List APat)) (h : atu_APat F a0 φ1 = some r) : RunF Tryz.prog T.T 205 [.ssl (encs c39 a0) a0.length false, .fn (.func g1) first1 caps1] (.ssl (encs c39 r) r.length false) := by
  rw [atu_APat] at h
  refine RunF.z Tryz.func205 rfl rfl rfl rfl rfl (fun C hr => ?_)
  refine gn (fun t H n => t 0 = .ssl (encs c39 a0) a0.length false ∧ t 1 = .fn (.func g1) first1 caps1) ⟨by simp, by simp⟩ fun t H n q => ?_
  apply eY 6; simp [q]
  refine gn (fun t H n => t 0 = .ssl (encs c39 a0) a0.length false ∧ t 1 = .fn (.func g1) first1 caps1) (by simp [q]) fun t H n q => ?_
  refine Stk.run 1 (fun t H n => t 0 = .ssl (encs c39 a0) a0.length false ∧ t 1 = .fn (.func g1) first1 caps1 ∧ t 5 = .sc (.slice none 0 0)) (fun J hJ => ?_) ?_
  · simp [q]
    exact hJ _ _ _ ⟨by simp [q], by simp [q], by simp [q]⟩
  clear q
  rintro t H n q
  obtain ⟨o1, ho1⟩ : ∃ o : Option Nat, o = none := ⟨none, rfl⟩
  obtain ⟨co1, hco1⟩ : ∃ c : Option Nat, c = none := ⟨none, rfl⟩
  obtain ⟨f0, f1, f5⟩ := q
  replace f5 : t 5 = slc o1 ([] : List APat).length co1 := by rw [ho1]; exact f5
  have b_o1 : OwnC H 39 6 c39 o1 co1 ([] : List APat) := by rw [ho1]; exact rfl
  have l_o1 : ∀ i, o1 = some i → i < n := by rw [ho1]; intro i e; cases e
  apply eY 9; simp [f0, f1, f5, b_o1]
  refine gn (fun t H n => Q1_3 a0 caps1 first1 g1 t ∧ t 5 = slc o1 ([] : List APat).length co1 ∧ t 10 = .sc (.int .i64 0) ∧ OwnC H 39 6 c39 o1 co1 ([] : List APat) ∧ (∀ i, o1 = some i → i < n)) (by and_intros <;> first | assumption | simp [f0, f1, f5, b_o1]) fun t H n q => ?_
  refine Stk.lo (fun μ t H n => ∃ o2 : Option Nat, ∃ co2 : Option Nat, ∃ v3 : List APat, ∃ v4 : Int, atu_APat_L0 F a0 φ1 μ v3 v4 = some r ∧ t 1 = .fn (.func g1) first1 caps1 ∧ t 5 = slc o2 v3.length co2 ∧ t 8 = .ssl (encs c39 a0) a0.length false ∧ t 9 = .sc (.int .i64 (a0.length : Int)) ∧ t 10 = .sc (.int .i64 v4) ∧ OwnC H 39 6 c39 o2 co2 v3 ∧ (∀ i, o2 = some i → i < n)) F ⟨o1, co1, ([] : List APat), 0, h, q.1.1, q.2.1, q.1.2.1, q.1.2.2, q.2.2.1, q.2.2.2.1, q.2.2.2.2⟩ ?_
  clear q h
  rintro J1 hJ1 μ t H n ⟨o2, co2, v3, v4, h, q⟩
  cases μ with
  | zero => exact absurd h (by simp [atu_APat_L0])
  | succ μ =>
  rw [atu_APat_L0] at h
  apply eY 5; simp [q]
  refine cd (decide (v4 < (a0.length : Int))) (by simp [q]) (fun hb8 => ?_) (fun hb8 => ?_)
  ·have h := cT hb8 h
   obtain ⟨x9, hx9, h⟩ := bnd h
   obtain ⟨i0x9, i1x9, i2x9, _⟩ := idx_ok hx9
   have ex9_0_39 : partOf T.T 39 (encs c39 a0) (v4.toNat * 6) = some (.agg (c39 x9)) := (part_elem0 (e := c39) (z := 6) (ty := 39) T.t39 (by decide) (by decide) hx9 0 (by decide)).trans (ld_39_0_39 _)
   apply eY 7; simp [q, i0x9, i1x9, pd39, ex9_0_39]
   refine Stk.oz T.t39 (cs := c39 (APat.mk 0 (APos.mk 0 0) ⟨#[]⟩ 0 [])) (by rw [u39]; rfl) rfl (by simp [q, i0x9, i1x9, pd39, ex9_0_39]) rfl (fun t' ht' => ?_)
   refine gn (fun t H n => ∃ b10, Q1_3 a0 caps1 first1 g1 t ∧ t 5 = slc o2 v3.length co2 ∧ t 7 = .own b10 0 ∧ t 10 = .sc (.int .i64 v4) ∧ t 13 = .agg (c39 x9) ∧ H b10 = some (.cells (c39 (APat.mk 0 (APos.mk 0 0) ⟨#[]⟩ 0 [])) 39) ∧ b10 < n ∧ OwnC H 39 6 c39 o2 co2 v3 ∧ (∀ i, o2 = some i → i < n) ∧ (∀ i, o2 = some i → i ≠ b10)) ⟨n, j5 (by simp [ht', q, i0x9, i1x9, pd39, ex9_0_39]) ⟨upd_same _ _ _, Nat.lt_succ_self _, q.2.2.2.2.2.1.mono (fun i hi => upd_ne _ _ (Nat.ne_of_lt (q.2.2.2.2.2.2 i hi))), fun i hi => Nat.lt_succ_of_lt (q.2.2.2.2.2.2 i hi), fun i hi => Nat.ne_of_lt (q.2.2.2.2.2.2 i hi)⟩⟩ fun t H n ⟨b10, ⟨f1, f8, f9⟩, f5, f7, f10, f13, b_b10, l_b10, b_o2, l_o2, d_b10_o2⟩ => ?_
   refine Stk.om (mop_store (z := 6) rfl f7 b_b10 f13 (len39 _) (by rw [len39]; decide) (ok39 _) (st_39_0_39 _ _)) (by simp [f1, f5, f7, f8, f9, f10, f13]) rfl (fun t' ht' => ?_)
   refine gn (fun t H n => Q1_3 a0 caps1 first1 g1 t ∧ t 5 = slc o2 v3.length co2 ∧ t 7 = .own b10 0 ∧ t 10 = .sc (.int .i64 v4) ∧ H b10 = some (.cells (c39 x9) 39) ∧ b10 < n ∧ OwnC H 39 6 c39 o2 co2 v3 ∧ (∀ i, o2 = some i → i < n) ∧ (∀ i, o2 = some i → i ≠ b10)) (j4 (by simp [ht', f1, f8, f9, f5, f7, f10]) ⟨upd_same _ _ _, l_b10, b_o2.mono (fun i hi => upd_ne _ _ (d_b10_o2 i hi)), l_o2, d_b10_o2⟩) fun t H n q => ?_
   obtain ⟨x11, hx11, h⟩ := bnd h
   apply eY 5; simp [q, ld_39_0_39]
   refine Stk.cv (g := g1) (first := first1) (caps := caps1) (args := first1 ++ [.agg (c39 x9)] ++ caps1) (args' := first1 ++ [.agg (c39 x9)] ++ caps1) (v := .agg (c39 x11)) [] (hφ1 _ _ hx11) (by simp [q, ld_39_0_39]) rfl (by simp [q, ld_39_0_39]) (by simp [q, ld_39_0_39]) (viewL_mid (x := [.agg (c39 x9)]) (y := [.agg (c39 x9)]) fr1.1 fr1.2 (.cons (.free (fr39 _)) (.nil))) (.inl ⟨rfl, fr39 _⟩) ?_
   rintro _ rfl
   refine gn (fun t H n => Q1_3 a0 caps1 first1 g1 t ∧ t 10 = .sc (.int .i64 v4) ∧ t 14 = slc o2 v3.length co2 ∧ t 17 = .agg (c39 x11) ∧ OwnC H 39 6 c39 o2 co2 v3 ∧ (∀ i, o2 = some i → i < n)) (by have ⟨⟨_, _, _⟩, _, _, _, _, _, _, _, _⟩ := q; and_intros <;> first | assumption | simp [q, ld_39_0_39]) fun t H n q => ?_
   refine Stk.om (mop_buildN (c := c39) (z := 6) T.t37 rfl T.t39 rfl (by decide) rfl (by decide) [x11] rfl (.cons q.2.2.2.1 rfl rfl rfl (len39 _) (by simp [length_encs]) (splice_next (c := c39) [] _ x11 rfl (by simp)) (.nil))) (by simp [q]) rfl (fun t' ht' => ?_)
   refine gn (fun t H n => ∃ b12, Q1_3 a0 caps1 first1 g1 t ∧ t 10 = .sc (.int .i64 v4) ∧ t 14 = slc o2 v3.length co2 ∧ t 18 = .osl b12 0 ([x11] : List APat).length (some ([x11] : List APat).length) ∧ H b12 = some (.cells (encs c39 ([x11] : List APat)) 39) ∧ b12 < n ∧ OwnC H 39 6 c39 o2 co2 v3 ∧ (∀ i, o2 = some i → i < n) ∧ (∀ i, o2 = some i → i ≠ b12)) ⟨n, j4 (by simp [ht', q]) ⟨upd_same _ _ _, Nat.lt_succ_self _, q.2.2.2.2.1.mono (fun i hi => upd_ne _ _ (Nat.ne_of_lt (q.2.2.2.2.2 i hi))), fun i hi => Nat.lt_succ_of_lt (q.2.2.2.2.2 i hi), fun i hi => Nat.ne_of_lt (q.2.2.2.2.2 i hi)⟩⟩ fun t H n ⟨b12, ⟨f1, f8, f9⟩, f10, f14, f18, b_b12, l_b12, b_o2, l_o2, d_b12_o2⟩ => ?_
   obtain ⟨x13, hx13, h⟩ := bnd h
   obtain ⟨r1x13, r2x13, r3x13⟩ := appM_ok hx13
   obtain ⟨o14, co14, H9, n9, e9, w9, le9, fr9, kp9⟩ := append_ownC (e := c39) (z := 6) (st := 37) T.t37 rfl T.t39 rfl (by decide) rfl (by decide) b_o2 l_o2 (y := .osl b12 0 ([x11] : List APat).length (some ([x11] : List APat).length)) ([x11] : List APat) (elems_row b_b12 _) (all_encs ok39 _) r1x13 r2x13
   rw [r3x13] at e9 w9
   refine Stk.om ((mop_append T.t37 rfl).trans (by rw [show ev t (.tmp 14) = t 14 from rfl, f14]; rw [show ev t (.tmp 18) = t 18 from rfl, f18];  exact e9)) (by simp [f1, f8, f9, f10, f14, f18]) rfl (fun t' ht' => ?_)
   refine gn (fun t H n => Q1_3 a0 caps1 first1 g1 t ∧ t 10 = .sc (.int .i64 v4) ∧ t 19 = slc o14 x13.length co14 ∧ OwnC H 39 6 c39 o14 co14 x13 ∧ (∀ i, o14 = some i → i < n)) (j3 (by simp [ht', f1, f8, f9, f10]) ⟨w9, fun i hi => (fr9 i hi).2⟩) fun t H n q => ?_
   apply eY 7; simp [q]
   exact lm (hJ1 _ _ _ _ ⟨o14, co14, x13, (IntKind.i64.wrap (v4 + 1)), h, by have ⟨⟨_, _, _⟩, _, _, _, _⟩ := q; and_intros <;> first | assumption | simp [q]⟩)
  ·have h := cF hb8 h
   refine Stk.ex rfl ?_
   apply eY 6; simp [q]
   obtain rfl := sj h
   exact (hr _ _ _ (slc o2 v3.length co2) (o2.toList) (by simp [q]) (.inr (.inr (view_ownC fr39 q.2.2.2.2.2.1 (fun i hi => by simp [hi]))))).1
@[simp] abbrev Q1_4 (b1 : Nat) (b2 : Nat) (t : Nat → AV) (H : Mem) (n : Nat) : Prop := t 1 = .own b1 0 ∧ t 2 = .own b2 0 ∧ b1 < n ∧ H b2 = some (.cells (c39 (APat.mk 0 (APos.mk 0 0) ⟨#[]⟩ 0 [])) 39) ∧ b2 < n ∧ b1 ≠ b2
theorem okB_ast_barePat (F : Nat) (ρ189 : APat → Option APat) (hρ189 : ∀ a0 r, ρ189 a0 = some r → RunF Tryz.prog T.T 189 [.agg (c39 a0)] (.agg (c39 r))) (a0 : APat) (r : APat) (h : ast_barePat_B F ρ189 a0 = some r) : RunF Tryz.prog T.T 189 [.agg (c39 a0)] (.agg (c39 r)) := by
  rw [ast_barePat_B] at h
  refine RunF.z Tryz.func189 rfl rfl rfl rfl rfl (fun C hr => ?_)
  refine gn (fun t H n => t 0 = .agg (c39 a0)) (by simp) fun t H n q => ?_
  apply eY 2; simp [q]
  refine gn (fun t H n => t 0 = .agg (c39 a0)) (by simp [q]) fun t H n q => ?_
  refine Stk.om (mop_box T.t39 (cs := c39 a0) (by show partOk (t 0) = true; rw [q]; rfl) (by show cellsOf (t 0) = _; rw [q]; rfl)) (by simp [q]) rfl (fun t' ht' => ?_)
  refine gn (fun t H n => ∃ b1, t 1 = .own b1 0 ∧ H b1 = some (.cells (c39 a0) 39) ∧ b1 < n) ⟨n, by simp [ht'], upd_same _ _ _, Nat.lt_succ_self _⟩ fun t H n ⟨b1, q⟩ => ?_
  refine Stk.oz T.t39 (cs := c39 (APat.mk 0 (APos.mk 0 0) ⟨#[]⟩ 0 [])) (by rw [u39]; rfl) rfl (by simp [q]) rfl (fun t' ht' => ?_)
  refine gn (fun t H n => ∃ b2, t 1 = .own b1 0 ∧ t 2 = .own b2 0 ∧ H b1 = some (.cells (c39 a0) 39) ∧ b1 < n ∧ H b2 = some (.cells (c39 (APat.mk 0 (APos.mk 0 0) ⟨#[]⟩ 0 [])) 39) ∧ b2 < n ∧ b1 ≠ b2) ⟨n, j2 (by simp [ht', q]) ⟨(upd_ne _ _ (Nat.ne_of_lt q.2.2)).trans q.2.1, Nat.lt_succ_of_lt q.2.2, upd_same _ _ _, Nat.lt_succ_self _, Nat.ne_of_lt q.2.2⟩⟩ fun t H n ⟨b2, q⟩ => ?_
  apply eY 3; simp [q]
  refine gn (fun t H n => Q1_4 b1 b2 t H n ∧ H b1 = some (.cells (c39 a0) 39)) (by simp [q]) fun t H n q => ?_
  refine Stk.ov (vop_build T.t28 rfl rfl (cs := c28 (APos.mk 0 0)) (cs' := c28 (APos.mk 0 0)) rfl (.nil)) (by simp [q]) rfl (fun t' ht' => ?_)
  refine gn (fun t H n => Q1_4 b1 b2 t H n ∧ t 3 = .agg (c28 (APos.mk 0 0)) ∧ H b1 = some (.cells (c39 a0) 39)) (by simp [ht', q]) fun t H n q => ?_
  obtain ⟨x3, hx3, h⟩ := bnd h
  apply eY 2; simp [q, ld_39_5_37]
  refine cw (ok_atu_APat F _ _ 189 [] [] (by simp [freeL, free]) (fun y0 r h => hρ189 y0 r h) _ hx3) (by simp [q, ld_39_5_37]) rfl rfl (by simp [q, ld_39_5_37]) (.cons (.free (freeL_encs fr39 _)) (.cons (.fn .nil (.nil)) (.nil))) (freeL_encs fr39 _) ?_
  rintro _ rfl
  apply eY 1; simp [q, ld_39_5_37]
  refine Stk.om (mop_store (z := 2) (o := 1) (v := .agg (c28 (APos.mk 0 0))) rfl (by simp [q, ld_39_5_37]) q.2.2 (by simp [q, ld_39_5_37]) (len28 _) (by rw [len39]; decide) (ok28 _) (st_39_1_28 _ _)) (by simp [q, ld_39_5_37]) rfl (fun t' ht' => ?_)
  refine gn (fun t H n => Q1_4 b1 b2 t H n ∧ t 6 = .ssl (encs c39 x3) x3.length false ∧ H b1 = some (.cells (c39 ({ a0 with At := (APos.mk 0 0) })) 39)) ⟨⟨by simp [ht', q, ld_39_5_37], by simp [ht', q, ld_39_5_37], q.1.2.2.1, (upd_ne _ _ (Ne.symm q.1.2.2.2.2.2)).trans q.1.2.2.2.1, q.1.2.2.2.2.1, q.1.2.2.2.2.2⟩, by simp [ht', q, ld_39_5_37], upd_same _ _ _⟩ fun t H n q => ?_
  apply eY 1; simp [q]
  refine Stk.om (mop_store (z := 1) (o := 5) (v := .ssl (encs c39 x3) x3.length false) rfl (by simp [q]) q.2.2 (by simp [q]) rfl (by rw [len39]; decide) rfl (st_39_5_37 _ _)) (by simp [q]) rfl (fun t' ht' => ?_)
  refine gn (fun t H n => Q1_4 b1 b2 t H n ∧ H b1 = some (.cells (c39 ({ { a0 with At := (APos.mk 0 0) } with Kids := x3 })) 39)) ⟨⟨by simp [ht', q], by simp [ht', q], q.1.2.2.1, (upd_ne _ _ (Ne.symm q.1.2.2.2.2.2)).trans q.1.2.2.2.1, q.1.2.2.2.2.1, q.1.2.2.2.2.2⟩, upd_same _ _ _⟩ fun t H n q => ?_
  apply eY 4; simp [q, ld_39_0_39]
  refine Stk.om (mop_store (z := 6) (o := 0) (v := .agg (c39 ({ { a0 with At := (APos.mk 0 0) } with Kids := x3 }))) rfl (by simp [q, ld_39_0_39]) q.1.2.2.2.1 (by simp [q, ld_39_0_39]) (len39 _) (by rw [len39]; decide) (ok39 _) (st_39_0_39 _ _)) (by simp [q, ld_39_0_39]) rfl (fun t' ht' => ?_)
  refine gn (fun t H n => t 2 = .own b2 0 ∧ H b2 = some (.cells (c39 ({ { a0 with At := (APos.mk 0 0) } with Kids := x3 })) 39) ∧ b2 < n) ⟨by simp [ht', q, ld_39_0_39], upd_same _ _ _, q.1.2.2.2.2.1⟩ fun t H n q => ?_
  apply eY 2; simp [q]
  obtain rfl := sj h
  exact (hF hr (by simp [q, ld_39_0_39]) (by exact fr39 _)).1
theorem okG_ast_barePat : ∀ F : Nat, (∀ (a0 : APat) (r : APat), ast_barePat F a0 = some r → RunF Tryz.prog T.T 189 [.agg (c39 a0)] (.agg (c39 r)))
  | 0 => (fun a0 r h => by rw [ast_barePat] at h; cases h)
  | F + 1 => (fun a0 r h => okB_ast_barePat F (ast_barePat F) (okG_ast_barePat F) a0 r (by rw [ast_barePat] at h; exact h))
theorem ok_ast_barePat (F : Nat) (a0 : APat) (r : APat) (h : ast_barePat F a0 = some r) : RunF Tryz.prog T.T 189 [.agg (c39 a0)] (.agg (c39 r)) := (okG_ast_barePat F) a0 r h
@[simp] abbrev Q1_5 (b1 : Nat) (b2 : Nat) (t : Nat → AV) (H : Mem) (n : Nat) : Prop := t 1 = .own b1 0 ∧ t 2 = .own b2 0 ∧ b1 < n ∧ H b2 = some (.cells (c33 (AExpr.mk 0 (APos.mk 0 0) 0 [] ⟨#[]⟩ [] [])) 33) ∧ b2 < n ∧ b1 ≠ b2
theorem okB_ast_bareExpr (F : Nat) (ρ67 : AExpr → Option AExpr) (ρ146 : AArm → Option AArm) (hρ67 : ∀ a0 r, ρ67 a0 = some r → RunF Tryz.prog T.T 67 [.agg (c33 a0)] (.agg (c33 r))) (hρ146 : ∀ a0 r, ρ146 a0 = some r → RunF Tryz.prog T.T 146 [.agg (c68 a0)] (.agg (c68 r))) (a0 : AExpr) (r : AExpr) (h : ast_bareExpr_B F ρ67 ρ146 a0 = some r) : RunF Tryz.prog T.T 67 [.agg (c33 a0)] (.agg (c33 r)) := by
  rw [ast_bareExpr_B] at h
  refine RunF.z Tryz.func67 rfl rfl rfl rfl rfl (fun C hr => ?_)
  refine gn (fun t H n => t 0 = .agg (c33 a0)) (by simp) fun t H n q => ?_
  apply eY 2; simp [q]
  refine gn (fun t H n => t 0 = .agg (c33 a0)) (by simp [q]) fun t H n q => ?_
  refine Stk.om (mop_box T.t33 (cs := c33 a0) (by show partOk (t 0) = true; rw [q]; rfl) (by show cellsOf (t 0) = _; rw [q]; rfl)) (by simp [q]) rfl (fun t' ht' => ?_)
  refine gn (fun t H n => ∃ b1, t 1 = .own b1 0 ∧ H b1 = some (.cells (c33 a0) 33) ∧ b1 < n) ⟨n, by simp [ht'], upd_same _ _ _, Nat.lt_succ_self _⟩ fun t H n ⟨b1, q⟩ => ?_
  refine Stk.oz T.t33 (cs := c33 (AExpr.mk 0 (APos.mk 0 0) 0 [] ⟨#[]⟩ [] [])) (by rw [u33]; rfl) rfl (by simp [q]) rfl (fun t' ht' => ?_)
  refine gn (fun t H n => ∃ b2, t 1 = .own b1 0 ∧ t 2 = .own b2 0 ∧ H b1 = some (.cells (c33 a0) 33) ∧ b1 < n ∧ H b2 = some (.cells (c33 (AExpr.mk 0 (APos.mk 0 0) 0 [] ⟨#[]⟩ [] [])) 33) ∧ b2 < n ∧ b1 ≠ b2) ⟨n, j2 (by simp [ht', q]) ⟨(upd_ne _ _ (Nat.ne_of_lt q.2.2)).trans q.2.1, Nat.lt_succ_of_lt q.2.2, upd_same _ _ _, Nat.lt_succ_self _, Nat.ne_of_lt q.2.2⟩⟩ fun t H n ⟨b2, q⟩ => ?_
  apply eY 2; simp [q]
  refine gn (fun t H n => Q1_5 b1 b2 t H n ∧ H b1 = some (.cells (c33 a0) 33)) (by simp [q]) fun t H n q => ?_
  obtain ⟨n0, hn0⟩ : ∃ m, m = n := ⟨n, rfl⟩
  have ln0 : n0 ≤ n := Nat.le_of_eq hn0
  refine Stk.rgD [.rd [], .rd [], .rd [b1], .rd [], .rd [], .rd [b1], .rd [], .rd [], .rd [b1], .rd [], .rd [], .mem [b1] n0, .rd [], .mem [b1] n0, .rd [], .mem [b1] n0, .rd [], .mem [b1] n0] none (by kernel_rfl) (by rfl) rfl (by simp [below, hn0, q, hn0]) rfl ?_
  refine Stk.ovD rfl (by simp [q]) rfl (vop_build T.t28 rfl rfl (cs := c28 (APos.mk 0 0)) (cs' := c28 (APos.mk 0 0)) rfl (.nil)) (by simp [q]) rfl (fun t' ht' => ?_)
  refine gn (fun t H n => Q1_5 b1 b2 t H n ∧ t 3 = .agg (c28 (APos.mk 0 0)) ∧ H b1 = some (.cells (c33 a0) 33) ∧ n0 ≤ n) (by simp [ht', q, ln0]) fun t H n q => ?_
  obtain ⟨x3, hx3, h⟩ := bnd h
  apply eY 2; simp [q, ld_33_4_29]
  refine cx (ok_slices_Clone_byte_byte F _ _ hx3) rfl rfl (by simp [q, ld_33_4_29]) rfl rfl (by simp [q, ld_33_4_29]) (.cons (.free (freeL_encs fr5 _)) (.nil)) (freeL_encs fr5 _) ?_
  rintro _ rfl
  obtain ⟨x4, hx4, h⟩ := bnd h
  apply eY 2; simp [q, ld_33_4_29, ld_33_6_30]
  refine cx (ok_atu_AExpr F _ _ 67 [] [] (by simp [freeL, free]) (fun y0 r h => hρ67 y0 r h) _ hx4) rfl rfl (by simp [q, ld_33_4_29, ld_33_6_30]) rfl rfl (by simp [q, ld_33_4_29, ld_33_6_30]) (.cons (.free (freeL_encs fr33 _)) (.cons (.fn .nil (.nil)) (.nil))) (freeL_encs fr33 _) ?_
  rintro _ rfl
  obtain ⟨x5, hx5, h⟩ := bnd h
  apply eY 2; simp [q, ld_33_4_29, ld_33_6_30, ld_33_7_31]
  refine cx (ok_atu_AArm F _ _ 146 [] [] (by simp [freeL, free]) (fun y0 r h => hρ146 y0 r h) _ hx5) rfl rfl (by simp [q, ld_33_4_29, ld_33_6_30, ld_33_7_31]) rfl rfl (by simp [q, ld_33_4_29, ld_33_6_30, ld_33_7_31]) (.cons (.free (freeL_encs fr68 _)) (.cons (.fn .nil (.nil)) (.nil))) (freeL_encs fr68 _) ?_
  rintro _ rfl
  apply eY 1; simp [q, ld_33_4_29, ld_33_6_30, ld_33_7_31]
  refine gn (fun t H n => Q1_5 b1 b2 t H n ∧ t 3 = .agg (c28 (APos.mk 0 0)) ∧ t 6 = .ssl (encs c5 x3) x3.length false ∧ t 9 = .ssl (encs c33 x4) x4.length false ∧ t 12 = .ssl (encs c68 x5) x5.length false ∧ t 13 = .own b1 1 ∧ H b1 = some (.cells (c33 a0) 33) ∧ n0 ≤ n) (by simp [q, ld_33_4_29, ld_33_6_30, ld_33_7_31]) fun t H n q => ?_
  refine Stk.omD (S := [b1]) (b := n0) rfl (fun j hj hm => upd_ne _ _ (by simpa using hm)) rfl (mop_store (z := 2) rfl q.2.2.2.2.2.1 q.2.2.2.2.2.2.1 q.2.1 (len28 _) (by rw [len33]; decide) (ok28 _) (st_33_1_28 _ _)) (by simp [q]) rfl (fun t' ht' => ?_)
  refine gn (fun t H n => Q1_5 b1 b2 t H n ∧ t 6 = .ssl (encs c5 x3) x3.length false ∧ t 9 = .ssl (encs c33 x4) x4.length false ∧ t 12 = .ssl (encs c68 x5) x5.length false ∧ H b1 = some (.cells (c33 ({ a0 with At := (APos.mk 0 0) })) 33) ∧ n0 ≤ n) ⟨⟨by simp [ht', q], by simp [ht', q], q.1.2.2.1, (upd_ne _ _ (Ne.symm q.1.2.2.2.2.2)).trans q.1.2.2.2.1, q.1.2.2.2.2.1, q.1.2.2.2.2.2⟩, j3 (by simp [ht', q]) ⟨upd_same _ _ _, q.2.2.2.2.2.2.2⟩⟩ fun t H n q => ?_
  apply eY 1; simp [q]
  refine gn (fun t H n => Q1_5 b1 b2 t H n ∧ t 6 = .ssl (encs c5 x3) x3.length false ∧ t 9 = .ssl (encs c33 x4) x4.length false ∧ t 12 = .ssl (encs c68 x5) x5.length false ∧ t 14 = .own b1 4 ∧ H b1 = some (.cells (c33 ({ a0 with At := (APos.mk 0 0) })) 33) ∧ n0 ≤ n) (by simp [q]) fun t H n q => ?_
  refine Stk.omD (S := [b1]) (b := n0) rfl (fun j hj hm => upd_ne _ _ (by simpa using hm)) rfl (mop_store (z := 1) rfl q.2.2.2.2.1 q.2.2.2.2.2.1 q.2.1 rfl (by rw [len33]; decide) rfl (st_33_4_29 _ _)) (by simp [q]) rfl (fun t' ht' => ?_)
  refine gn (fun t H n => Q1_5 b1 b2 t H n ∧ t 9 = .ssl (encs c33 x4) x4.length false ∧ t 12 = .ssl (encs c68 x5) x5.length false ∧ H b1 = some (.cells (c33 ({ { a0 with At := (APos.mk 0 0) } with Bytes := x3 })) 33) ∧ n0 ≤ n) ⟨⟨by simp [ht', q], by simp [ht', q], q.1.2.2.1, (upd_ne _ _ (Ne.symm q.1.2.2.2.2.2)).trans q.1.2.2.2.1, q.1.2.2.2.2.1, q.1.2.2.2.2.2⟩, j2 (by simp [ht', q]) ⟨upd_same _ _ _, q.2.2.2.2.2.2⟩⟩ fun t H n q => ?_
  apply eY 1; simp [q]
  refine gn (fun t H n => Q1_5 b1 b2 t H n ∧ t 9 = .ssl (encs c33 x4) x4.length false ∧ t 12 = .ssl (encs c68 x5) x5.length false ∧ t 15 = .own b1 6 ∧ H b1 = some (.cells (c33 ({ { a0 with At := (APos.mk 0 0) } with Bytes := x3 })) 33) ∧ n0 ≤ n) (by simp [q]) fun t H n q => ?_
  refine Stk.omD (S := [b1]) (b := n0) rfl (fun j hj hm => upd_ne _ _ (by simpa using hm)) rfl (mop_store (z := 1) rfl q.2.2.2.1 q.2.2.2.2.1 q.2.1 rfl (by rw [len33]; decide) rfl (st_33_6_30 _ _)) (by simp [q]) rfl (fun t' ht' => ?_)
  refine gn (fun t H n => Q1_5 b1 b2 t H n ∧ t 12 = .ssl (encs c68 x5) x5.length false ∧ H b1 = some (.cells (c33 ({ { { a0 with At := (APos.mk 0 0) } with Bytes := x3 } with Kids := x4 })) 33) ∧ n0 ≤ n) ⟨⟨by simp [ht', q], by simp [ht', q], q.1.2.2.1, (upd_ne _ _ (Ne.symm q.1.2.2.2.2.2)).trans q.1.2.2.2.1, q.1.2.2.2.2.1, q.1.2.2.2.2.2⟩, by simp [ht', q], upd_same _ _ _, q.2.2.2.2.2⟩ fun t H n q => ?_
  apply eY 1; simp [q]
  refine gn (fun t H n => Q1_5 b1 b2 t H n ∧ t 12 = .ssl (encs c68 x5) x5.length false ∧ t 16 = .own b1 7 ∧ H b1 = some (.cells (c33 ({ { { a0 with At := (APos.mk 0 0) } with Bytes := x3 } with Kids := x4 })) 33) ∧ n0 ≤ n) (by simp [q]) fun t H n q => ?_
  refine Stk.omD (S := [b1]) (b := n0) rfl (fun j hj hm => upd_ne _ _ (by simpa using hm)) rfl (mop_store (z := 1) rfl q.2.2.1 q.2.2.2.1 q.2.1 rfl (by rw [len33]; decide) rfl (st_33_7_31 _ _)) (by simp [q]) rfl (fun t' ht' => ?_)
  refine gn (fun t H n => Q1_5 b1 b2 t H n ∧ H b1 = some (.cells (c33 ({ { { { a0 with At := (APos.mk 0 0) } with Bytes := x3 } with Kids := x4 } with Arms := x5 })) 33) ∧ n0 ≤ n) ⟨⟨by simp [ht', q], by simp [ht', q], q.1.2.2.1, (upd_ne _ _ (Ne.symm q.1.2.2.2.2.2)).trans q.1.2.2.2.1, q.1.2.2.2.2.1, q.1.2.2.2.2.2⟩, upd_same _ _ _, q.2.2.2.2⟩ fun t H n q => ?_
  apply eY 4; simp [q, ld_33_0_33]
  refine Stk.om (mop_store (z := 8) (o := 0) (v := .agg (c33 ({ { { { a0 with At := (APos.mk 0 0) } with Bytes := x3 } with Kids := x4 } with Arms := x5 }))) rfl (by simp [q, ld_33_0_33]) q.1.2.2.2.1 (by simp [q, ld_33_0_33]) (len33 _) (by rw [len33]; decide) (ok33 _) (st_33_0_33 _ _)) (by simp [q, ld_33_0_33]) rfl (fun t' ht' => ?_)
  refine gn (fun t H n => t 2 = .own b2 0 ∧ H b2 = some (.cells (c33 ({ { { { a0 with At := (APos.mk 0 0) } with Bytes := x3 } with Kids := x4 } with Arms := x5 })) 33) ∧ b2 < n) ⟨by simp [ht', q, ld_33_0_33], upd_same _ _ _, q.1.2.2.2.2.1⟩ fun t H n q => ?_
  apply eY 2; simp [q]
  obtain rfl := sj h
  exact (hF hr (by simp [q, ld_33_0_33]) (by exact fr33 _)).1
@[simp] abbrev Q1_6 (b2 : Nat) (t : Nat → AV) (H : Mem) (n : Nat) : Prop := t 2 = .own b2 0 ∧ H b2 = some (.cells (c68 (AArm.mk (APat.mk 0 (APos.mk 0 0) ⟨#[]⟩ 0 []) (AExpr.mk 0 (APos.mk 0 0) 0 [] ⟨#[]⟩ [] []))) 68) ∧ b2 < n
theorem okB_ast_bareArm (F : Nat) (ρ67 : AExpr → Option AExpr) (ρ146 : AArm → Option AArm) (hρ67 : ∀ a0 r, ρ67 a0 = some r → RunF Tryz.prog T.T 67 [.agg (c33 a0)] (.agg (c33 r))) (hρ146 : ∀ a0 r, ρ146 a0 = some r → RunF Tryz.prog T.T 146 [.agg (c68 a0)] (.agg (c68 r))) (a0 : AArm) (r : AArm) (h : ast_bareArm_B F ρ67 ρ146 a0 = some r) : RunF Tryz.prog T.T 146 [.agg (c68 a0)] (.agg (c68 r)) := by
  rw [ast_bareArm_B] at h
  refine RunF.z Tryz.func146 rfl rfl rfl rfl rfl (fun C hr => ?_)
  refine gn (fun t H n => t 0 = .agg (c68 a0)) (by simp) fun t H n q => ?_
  apply eY 2; simp [q]
  refine gn (fun t H n => t 0 = .agg (c68 a0)) (by simp [q]) fun t H n q => ?_
  refine Stk.om (mop_box T.t68 (cs := c68 a0) (by show partOk (t 0) = true; rw [q]; rfl) (by show cellsOf (t 0) = _; rw [q]; rfl)) (by simp [q]) rfl (fun t' ht' => ?_)
  refine gn (fun t H n => ∃ b1, t 1 = .own b1 0 ∧ H b1 = some (.cells (c68 a0) 68) ∧ b1 < n) ⟨n, by simp [ht'], upd_same _ _ _, Nat.lt_succ_self _⟩ fun t H n ⟨b1, q⟩ => ?_
  refine Stk.oz T.t68 (cs := c68 (AArm.mk (APat.mk 0 (APos.mk 0 0) ⟨#[]⟩ 0 []) (AExpr.mk 0 (APos.mk 0 0) 0 [] ⟨#[]⟩ [] []))) (by rw [u68]; rfl) rfl (by simp [q]) rfl (fun t' ht' => ?_)
  refine gn (fun t H n => ∃ b2, t 1 = .own b1 0 ∧ t 2 = .own b2 0 ∧ H b1 = some (.cells (c68 a0) 68) ∧ b1 < n ∧ H b2 = some (.cells (c68 (AArm.mk (APat.mk 0 (APos.mk 0 0) ⟨#[]⟩ 0 []) (AExpr.mk 0 (APos.mk 0 0) 0 [] ⟨#[]⟩ [] []))) 68) ∧ b2 < n ∧ b1 ≠ b2) ⟨n, j2 (by simp [ht', q]) ⟨(upd_ne _ _ (Nat.ne_of_lt q.2.2)).trans q.2.1, Nat.lt_succ_of_lt q.2.2, upd_same _ _ _, Nat.lt_succ_self _, Nat.ne_of_lt q.2.2⟩⟩ fun t H n ⟨b2, q⟩ => ?_
  apply eY 2; simp [q]
  refine gn (fun t H n => Q1_6 b2 t H n ∧ t 1 = .own b1 0 ∧ H b1 = some (.cells (c68 a0) 68) ∧ b1 < n ∧ b1 ≠ b2) (by simp [q]) fun t H n q => ?_
  obtain ⟨n0, hn0⟩ : ∃ m, m = n := ⟨n, rfl⟩
  have ln0 : n0 ≤ n := Nat.le_of_eq hn0
  refine Stk.rgD [.rd [], .rd [b1], .rd [], .rd [], .rd [b1], .rd [], .rd [], .mem [b2] n0] none (by kernel_rfl) (drawOk2_ren [b1, b2] (by simp [q]) n0 [.rd [], .rd [0], .rd [], .rd [], .rd [0], .rd [], .rd [], .mem [1] 0] rfl (by rfl)) rfl (by simp [below, hn0, q, hn0]) rfl ?_
  obtain ⟨x3, hx3, h⟩ := bnd h
  apply eY 2; simp [q, ld_68_0_39]
  refine cx (ok_ast_barePat F _ _ hx3) rfl rfl (by simp [q, ld_68_0_39]) rfl rfl (by simp [q, ld_68_0_39]) (.cons (.free (fr39 _)) (.nil)) (fr39 _) ?_
  rintro _ rfl
  obtain ⟨x4, hx4, h⟩ := bnd h
  apply eY 2; simp [q, ld_68_0_39, ld_68_6_33]
  refine cx (hρ67 _ _ hx4) rfl rfl (by simp [q, ld_68_0_39, ld_68_6_33]) rfl rfl (by simp [q, ld_68_0_39, ld_68_6_33]) (.cons (.free (fr33 _)) (.nil)) (fr33 _) ?_
  rintro _ rfl
  refine gn (fun t H n => Q1_6 b2 t H n ∧ t 5 = .agg (c39 x3) ∧ t 8 = .agg (c33 x4) ∧ n0 ≤ n) (by simp [q, ld_68_0_39, ld_68_6_33, ln0]) fun t H n q => ?_
  refine Stk.ovD rfl (by simp [q]) rfl (vop_build T.t68 rfl rfl (cs := c68 (AArm.mk (APat.mk 0 (APos.mk 0 0) ⟨#[]⟩ 0 []) (AExpr.mk 0 (APos.mk 0 0) 0 [] ⟨#[]⟩ [] []))) (cs' := c68 (AArm.mk x3 x4)) rfl (.cons q.2.1 rfl rfl rfl rfl (len39 _) (by rw [len68]; decide) (st_68_0_39 _ _) (.cons q.2.2.1 rfl rfl rfl rfl (len33 _) (by rw [len68]; decide) (st_68_6_33 _ _) (.nil)))) (by simp [q]) rfl (fun t' ht' => ?_)
  refine gn (fun t H n => Q1_6 b2 t H n ∧ t 9 = .agg (c68 (AArm.mk x3 x4)) ∧ n0 ≤ n) (by simp [ht', q]) fun t H n q => ?_
  refine Stk.omD (S := [b2]) (b := n0) rfl (fun j hj hm => upd_ne _ _ (by simpa using hm)) rfl (mop_store (z := 14) rfl q.1.1 q.1.2.1 q.2.1 (len68 _) (by rw [len68]; decide) (ok68 _) (st_68_0_68 _ _)) (by simp [q]) rfl (fun t' ht' => ?_)
  refine gn (fun t H n => t 2 = .own b2 0 ∧ H b2 = some (.cells (c68 (AArm.mk x3 x4)) 68) ∧ b2 < n ∧ n0 ≤ n) ⟨by simp [ht', q], upd_same _ _ _, q.1.2.2, q.2.2⟩ fun t H n q => ?_
  apply eY 2; simp [q]
  obtain rfl := sj h
  exact (hF hr (by simp [q, ld_68_0_68]) (fr68 _)).1
theorem okG_ast_bareExpr : ∀ F : Nat, (∀ (a0 : AExpr) (r : AExpr), ast_bareExpr F a0 = some r → RunF Tryz.prog T.T 67 [.agg (c33 a0)] (.agg (c33 r))) ∧ (∀ (a0 : AArm) (r : AArm), ast_bareArm F a0 = some r → RunF Tryz.prog T.T 146 [.agg (c68 a0)] (.agg (c68 r)))
  | 0 => ⟨(fun a0 r h => by rw [ast_bareExpr] at h; cases h), (fun a0 r h => by rw [ast_bareArm] at h; cases h)⟩
  | F + 1 => ⟨(fun a0 r h => okB_ast_bareExpr F (ast_bareExpr F) (ast_bareArm F) (okG_ast_bareExpr F).1 (okG_ast_bareExpr F).2 a0 r (by rw [ast_bareExpr] at h; exact h)), (fun a0 r h => okB_ast_bareArm F (ast_bareExpr F) (ast_bareArm F) (okG_ast_bareExpr F).1 (okG_ast_bareExpr F).2 a0 r (by rw [ast_bareArm] at h; exact h))⟩
theorem ok_ast_bareExpr (F : Nat) (a0 : AExpr) (r : AExpr) (h : ast_bareExpr F a0 = some r) : RunF Tryz.prog T.T 67 [.agg (c33 a0)] (.agg (c33 r)) := (okG_ast_bareExpr F).1 a0 r h
@[simp] abbrev Q1_7 (a0 : (List AData)) (caps1 : List AV) (first1 : List AV) (g1 : FuncId) (t : Nat → AV) : Prop := t 1 = .fn (.func g1) first1 caps1 ∧ t 8 = .ssl (encs c72 a0) a0.length false ∧ t 9 = .sc (.int .i64 (a0.length : Int))
theorem ok_atu_AData (F : Nat) (a0 : (List AData)) (φ1 : AData → Option AData) (g1 : FuncId) (first1 caps1 : List AV) (fr1 : freeL first1 = true ∧ freeL caps1 = true) (hφ1 : ∀ y0 r, φ1 y0 = some r → RunF Tryz.prog T.T g1 (first1 ++ [.agg (c72 y0)] ++ caps1) (.agg (c72 r))) (r : (List AData)) (h : atu_AData F a0 φ1 = some r) : RunF Tryz.prog T.T 68 [.ssl (encs c72 a0) a0.length false, .fn (.func g1) first1 caps1] (.ssl (encs c72 r) r.length false) := by
  rw [atu_AData] at h
  refine RunF.z Tryz.func68 rfl rfl rfl rfl rfl (fun C hr => ?_)
  refine gn (fun t H n => t 0 = .ssl (encs c72 a0) a0.length false ∧ t 1 = .fn (.func g1) first1 caps1) ⟨by simp, by simp⟩ fun t H n q => ?_
  apply eY 6; simp [q]
  refine gn (fun t H n => t 0 = .ssl (encs c72 a0) a0.length false ∧ t 1 = .fn (.func g1) first1 caps1) (by simp [q]) fun t H n q => ?_
  refine Stk.run 1 (fun t H n => t 0 = .ssl (encs c72 a0) a0.length false ∧ t 1 = .fn (.func g1) first1 caps1 ∧ t 5 = .sc (.slice none 0 0)) (fun J hJ => ?_) ?_
  · simp [q]
    exact hJ _ _ _ ⟨by simp [q], by simp [q], by simp [q]⟩
  clear q
  rintro t H n q
  obtain ⟨o1, ho1⟩ : ∃ o : Option Nat, o = none := ⟨none, rfl⟩
  obtain ⟨co1, hco1⟩ : ∃ c : Option Nat, c = none := ⟨none, rfl⟩
  obtain ⟨f0, f1, f5⟩ := q
  replace f5 : t 5 = slc o1 ([] : List AData).length co1 := by rw [ho1]; exact f5
  have b_o1 : OwnC H 72 4 c72 o1 co1 ([] : List AData) := by rw [ho1]; exact rfl
  have l_o1 : ∀ i, o1 = some i → i < n := by rw [ho1]; intro i e; cases e
  apply eY 9; simp [f0, f1, f5, b_o1]
  refine gn (fun t H n => Q1_7 a0 caps1 first1 g1 t ∧ t 5 = slc o1 ([] : List AData).length co1 ∧ t 10 = .sc (.int .i64 0) ∧ OwnC H 72 4 c72 o1 co1 ([] : List AData) ∧ (∀ i, o1 = some i → i < n)) (by and_intros <;> first | assumption | simp [f0, f1, f5, b_o1]) fun t H n q => ?_
  refine Stk.lo (fun μ t H n => ∃ o2 : Option Nat, ∃ co2 : Option Nat, ∃ v3 : List AData, ∃ v4 : Int, atu_AData_L0 F a0 φ1 μ v3 v4 = some r ∧ t 1 = .fn (.func g1) first1 caps1 ∧ t 5 = slc o2 v3.length co2 ∧ t 8 = .ssl (encs c72 a0) a0.length false ∧ t 9 = .sc (.int .i64 (a0.length : Int)) ∧ t 10 = .sc (.int .i64 v4) ∧ OwnC H 72 4 c72 o2 co2 v3 ∧ (∀ i, o2 = some i → i < n)) F ⟨o1, co1, ([] : List AData), 0, h, q.1.1, q.2.1, q.1.2.1, q.1.2.2, q.2.2.1, q.2.2.2.1, q.2.2.2.2⟩ ?_
  clear q h
  rintro J1 hJ1 μ t H n ⟨o2, co2, v3, v4, h, q⟩
  cases μ with
  | zero => exact absurd h (by simp [atu_AData_L0])
  | succ μ =>
  rw [atu_AData_L0] at h
  apply eY 5; simp [q]
  refine cd (decide (v4 < (a0.length : Int))) (by simp [q]) (fun hb8 => ?_) (fun hb8 => ?_)
  ·have h := cT hb8 h
   obtain ⟨x9, hx9, h⟩ := bnd h
   obtain ⟨i0x9, i1x9, i2x9, _⟩ := idx_ok hx9
   have ex9_0_72 : partOf T.T 72 (encs c72 a0) (v4.toNat * 4) = some (.agg (c72 x9)) := (part_elem0 (e := c72) (z := 4) (ty := 72) T.t72 (by decide) (by decide) hx9 0 (by decide)).trans (ld_72_0_72 _)
   apply eY 7; simp [q, i0x9, i1x9, pd72, ex9_0_72]
   refine Stk.oz T.t72 (cs := c72 (AData.mk (APos.mk 0 0) ⟨#[]⟩ [])) (by rfl) rfl (by simp [q, i0x9, i1x9, pd72, ex9_0_72]) rfl (fun t' ht' => ?_)
   refine gn (fun t H n => ∃ b10, Q1_7 a0 caps1 first1 g1 t ∧ t 5 = slc o2 v3.length co2 ∧ t 7 = .own b10 0 ∧ t 10 = .sc (.int .i64 v4) ∧ t 13 = .agg (c72 x9) ∧ H b10 = some (.cells (c72 (AData.mk (APos.mk 0 0) ⟨#[]⟩ [])) 72) ∧ b10 < n ∧ OwnC H 72 4 c72 o2 co2 v3 ∧ (∀ i, o2 = some i → i < n) ∧ (∀ i, o2 = some i → i ≠ b10)) ⟨n, j5 (by simp [ht', q, i0x9, i1x9, pd72, ex9_0_72]) ⟨upd_same _ _ _, Nat.lt_succ_self _, q.2.2.2.2.2.1.mono (fun i hi => upd_ne _ _ (Nat.ne_of_lt (q.2.2.2.2.2.2 i hi))), fun i hi => Nat.lt_succ_of_lt (q.2.2.2.2.2.2 i hi), fun i hi => Nat.ne_of_lt (q.2.2.2.2.2.2 i hi)⟩⟩ fun t H n ⟨b10, ⟨f1, f8, f9⟩, f5, f7, f10, f13, b_b10, l_b10, b_o2, l_o2, d_b10_o2⟩ => ?_
   refine Stk.om (mop_store (z := 4) rfl f7 b_b10 f13 (len72 _) (by rw [len72]; decide) (ok72 _) (st_72_0_72 _ _)) (by simp [f1, f5, f7, f8, f9, f10, f13]) rfl (fun t' ht' => ?_)
   refine gn (fun t H n => Q1_7 a0 caps1 first1 g1 t ∧ t 5 = slc o2 v3.length co2 ∧ t 7 = .own b10 0 ∧ t 10 = .sc (.int .i64 v4) ∧ H b10 = some (.cells (c72 x9) 72) ∧ b10 < n ∧ OwnC H 72 4 c72 o2 co2 v3 ∧ (∀ i, o2 = some i → i < n) ∧ (∀ i, o2 = some i → i ≠ b10)) (j4 (by simp [ht', f1, f8, f9, f5, f7, f10]) ⟨upd_same _ _ _, l_b10, b_o2.mono (fun i hi => upd_ne _ _ (d_b10_o2 i hi)), l_o2, d_b10_o2⟩) fun t H n q => ?_
   obtain ⟨x11, hx11, h⟩ := bnd h
   apply eY 5; simp [q, ld_72_0_72]
   refine Stk.cv (g := g1) (first := first1) (caps := caps1) (args := first1 ++ [.agg (c72 x9)] ++ caps1) (args' := first1 ++ [.agg (c72 x9)] ++ caps1) (v := .agg (c72 x11)) [] (hφ1 _ _ hx11) (by simp [q, ld_72_0_72]) rfl (by simp [q, ld_72_0_72]) (by simp [q, ld_72_0_72]) (viewL_mid (x := [.agg (c72 x9)]) (y := [.agg (c72 x9)]) fr1.1 fr1.2 (.cons (.free (fr72 _)) (.nil))) (.inl ⟨rfl, fr72 _⟩) ?_
   rintro _ rfl
   refine gn (fun t H n => Q1_7 a0 caps1 first1 g1 t ∧ t 10 = .sc (.int .i64 v4) ∧ t 14 = slc o2 v3.length co2 ∧ t 17 = .agg (c72 x11) ∧ OwnC H 72 4 c72 o2 co2 v3 ∧ (∀ i, o2 = some i → i < n)) (by have ⟨⟨_, _, _⟩, _, _, _, _, _, _, _, _⟩ := q; and_intros <;> first | assumption | simp [q, ld_72_0_72]) fun t H n q => ?_
   refine Stk.om (mop_buildN (c := c72) (z := 4) T.t22 rfl T.t72 rfl (by decide) rfl (by decide) [x11] rfl (.cons q.2.2.2.1 rfl rfl rfl (len72 _) (by simp [length_encs]) (splice_next (c := c72) [] _ x11 rfl (by simp)) (.nil))) (by simp [q]) rfl (fun t' ht' => ?_)
   refine gn (fun t H n => ∃ b12, Q1_7 a0 caps1 first1 g1 t ∧ t 10 = .sc (.int .i64 v4) ∧ t 14 = slc o2 v3.length co2 ∧ t 18 = .osl b12 0 ([x11] : List AData).length (some ([x11] : List AData).length) ∧ H b12 = some (.cells (encs c72 ([x11] : List AData)) 72) ∧ b12 < n ∧ OwnC H 72 4 c72 o2 co2 v3 ∧ (∀ i, o2 = some i → i < n) ∧ (∀ i, o2 = some i → i ≠ b12)) ⟨n, j4 (by simp [ht', q]) ⟨upd_same _ _ _, Nat.lt_succ_self _, q.2.2.2.2.1.mono (fun i hi => upd_ne _ _ (Nat.ne_of_lt (q.2.2.2.2.2 i hi))), fun i hi => Nat.lt_succ_of_lt (q.2.2.2.2.2 i hi), fun i hi => Nat.ne_of_lt (q.2.2.2.2.2 i hi)⟩⟩ fun t H n ⟨b12, ⟨f1, f8, f9⟩, f10, f14, f18, b_b12, l_b12, b_o2, l_o2, d_b12_o2⟩ => ?_
   obtain ⟨x13, hx13, h⟩ := bnd h
   obtain ⟨r1x13, r2x13, r3x13⟩ := appM_ok hx13
   obtain ⟨o14, co14, H9, n9, e9, w9, le9, fr9, kp9⟩ := append_ownC (e := c72) (z := 4) (st := 22) T.t22 rfl T.t72 rfl (by decide) rfl (by decide) b_o2 l_o2 (y := .osl b12 0 ([x11] : List AData).length (some ([x11] : List AData).length)) ([x11] : List AData) (elems_row b_b12 _) (all_encs ok72 _) r1x13 r2x13
   rw [r3x13] at e9 w9
   refine Stk.om ((mop_append T.t22 rfl).trans (by rw [show ev t (.tmp 14) = t 14 from rfl, f14]; rw [show ev t (.tmp 18) = t 18 from rfl, f18];  exact e9)) (by simp [f1, f8, f9, f10, f14, f18]) rfl (fun t' ht' => ?_)
   refine gn (fun t H n => Q1_7 a0 caps1 first1 g1 t ∧ t 10 = .sc (.int .i64 v4) ∧ t 19 = slc o14 x13.length co14 ∧ OwnC H 72 4 c72 o14 co14 x13 ∧ (∀ i, o14 = some i → i < n)) (j3 (by simp [ht', f1, f8, f9, f10]) ⟨w9, fun i hi => (fr9 i hi).2⟩) fun t H n q => ?_
   apply eY 7; simp [q]
   exact lm (hJ1 _ _ _ _ ⟨o14, co14, x13, (IntKind.i64.wrap (v4 + 1)), h, by have ⟨⟨_, _, _⟩, _, _, _, _⟩ := q; and_intros <;> first | assumption | simp [q]⟩)
  ·have h := cF hb8 h
   refine Stk.ex rfl ?_
   apply eY 6; simp [q]
   obtain rfl := sj h
   exact (hr _ _ _ (slc o2 v3.length co2) (o2.toList) (by simp [q]) (.inr (.inr (view_ownC fr72 q.2.2.2.2.2.1 (fun i hi => by simp [hi]))))).1
@[simp] abbrev Q1_8 (a0 : (List ACon)) (caps1 : List AV) (first1 : List AV) (g1 : FuncId) (t : Nat → AV) : Prop := t 1 = .fn (.func g1) first1 caps1 ∧ t 8 = .ssl (encs c92 a0) a0.length false ∧ t 9 = .sc (.int .i64 (a0.length : Int))
theorem ok_atu_ACon (F : Nat) (a0 : (List ACon)) (φ1 : ACon → Option ACon) (g1 : FuncId) (first1 caps1 : List AV) (fr1 : freeL first1 = true ∧ freeL caps1 = true) (hφ1 : ∀ y0 r, φ1 y0 = some r → RunF Tryz.prog T.T g1 (first1 ++ [.agg (c92 y0)] ++ caps1) (.agg (c92 r))) (r : (List ACon)) (h : atu_ACon F a0 φ1 = some r) : RunF Tryz.prog T.T 70 [.ssl (encs c92 a0) a0.length false, .fn (.func g1) first1 caps1] (.ssl (encs c92 r) r.length false) := by
  rw [atu_ACon] at h
  refine RunF.z Tryz.func70 rfl rfl rfl rfl rfl (fun C hr => ?_)
  refine gn (fun t H n => t 0 = .ssl (encs c92 a0) a0.length false ∧ t 1 = .fn (.func g1) first1 caps1) ⟨by simp, by simp⟩ fun t H n q => ?_
  apply eY 6; simp [q]
  refine gn (fun t H n => t 0 = .ssl (encs c92 a0) a0.length false ∧ t 1 = .fn (.func g1) first1 caps1) (by simp [q]) fun t H n q => ?_
  refine Stk.run 1 (fun t H n => t 0 = .ssl (encs c92 a0) a0.length false ∧ t 1 = .fn (.func g1) first1 caps1 ∧ t 5 = .sc (.slice none 0 0)) (fun J hJ => ?_) ?_
  · simp [q]
    exact hJ _ _ _ ⟨by simp [q], by simp [q], by simp [q]⟩
  clear q
  rintro t H n q
  obtain ⟨o1, ho1⟩ : ∃ o : Option Nat, o = none := ⟨none, rfl⟩
  obtain ⟨co1, hco1⟩ : ∃ c : Option Nat, c = none := ⟨none, rfl⟩
  obtain ⟨f0, f1, f5⟩ := q
  replace f5 : t 5 = slc o1 ([] : List ACon).length co1 := by rw [ho1]; exact f5
  have b_o1 : OwnC H 92 2 c92 o1 co1 ([] : List ACon) := by rw [ho1]; exact rfl
  have l_o1 : ∀ i, o1 = some i → i < n := by rw [ho1]; intro i e; cases e
  apply eY 9; simp [f0, f1, f5, b_o1]
  refine gn (fun t H n => Q1_8 a0 caps1 first1 g1 t ∧ t 5 = slc o1 ([] : List ACon).length co1 ∧ t 10 = .sc (.int .i64 0) ∧ OwnC H 92 2 c92 o1 co1 ([] : List ACon) ∧ (∀ i, o1 = some i → i < n)) (by and_intros <;> first | assumption | simp [f0, f1, f5, b_o1]) fun t H n q => ?_
  refine Stk.lo (fun μ t H n => ∃ o2 : Option Nat, ∃ co2 : Option Nat, ∃ v3 : List ACon, ∃ v4 : Int, atu_ACon_L0 F a0 φ1 μ v3 v4 = some r ∧ t 1 = .fn (.func g1) first1 caps1 ∧ t 5 = slc o2 v3.length co2 ∧ t 8 = .ssl (encs c92 a0) a0.length false ∧ t 9 = .sc (.int .i64 (a0.length : Int)) ∧ t 10 = .sc (.int .i64 v4) ∧ OwnC H 92 2 c92 o2 co2 v3 ∧ (∀ i, o2 = some i → i < n)) F ⟨o1, co1, ([] : List ACon), 0, h, q.1.1, q.2.1, q.1.2.1, q.1.2.2, q.2.2.1, q.2.2.2.1, q.2.2.2.2⟩ ?_
  clear q h
  rintro J1 hJ1 μ t H n ⟨o2, co2, v3, v4, h, q⟩
  cases μ with
  | zero => exact absurd h (by simp [atu_ACon_L0])
  | succ μ =>
  rw [atu_ACon_L0] at h
  apply eY 5; simp [q]
  refine cd (decide (v4 < (a0.length : Int))) (by simp [q]) (fun hb8 => ?_) (fun hb8 => ?_)
  ·have h := cT hb8 h
   obtain ⟨x9, hx9, h⟩ := bnd h
   obtain ⟨i0x9, i1x9, i2x9, _⟩ := idx_ok hx9
   have ex9_0_92 : partOf T.T 92 (encs c92 a0) (v4.toNat * 2) = some (.agg (c92 x9)) := (part_elem0 (e := c92) (z := 2) (ty := 92) T.t92 (by decide) (by decide) hx9 0 (by decide)).trans (ld_92_0_92 _)
   apply eY 7; simp [q, i0x9, i1x9, pd92, ex9_0_92]
   refine Stk.oz T.t92 (cs := c92 (ACon.mk ⟨#[]⟩ [])) (by rfl) rfl (by simp [q, i0x9, i1x9, pd92, ex9_0_92]) rfl (fun t' ht' => ?_)
   refine gn (fun t H n => ∃ b10, Q1_8 a0 caps1 first1 g1 t ∧ t 5 = slc o2 v3.length co2 ∧ t 7 = .own b10 0 ∧ t 10 = .sc (.int .i64 v4) ∧ t 13 = .agg (c92 x9) ∧ H b10 = some (.cells (c92 (ACon.mk ⟨#[]⟩ [])) 92) ∧ b10 < n ∧ OwnC H 92 2 c92 o2 co2 v3 ∧ (∀ i, o2 = some i → i < n) ∧ (∀ i, o2 = some i → i ≠ b10)) ⟨n, j5 (by simp [ht', q, i0x9, i1x9, pd92, ex9_0_92]) ⟨upd_same _ _ _, Nat.lt_succ_self _, q.2.2.2.2.2.1.mono (fun i hi => upd_ne _ _ (Nat.ne_of_lt (q.2.2.2.2.2.2 i hi))), fun i hi => Nat.lt_succ_of_lt (q.2.2.2.2.2.2 i hi), fun i hi => Nat.ne_of_lt (q.2.2.2.2.2.2 i hi)⟩⟩ fun t H n ⟨b10, ⟨f1, f8, f9⟩, f5, f7, f10, f13, b_b10, l_b10, b_o2, l_o2, d_b10_o2⟩ => ?_
   refine Stk.om (mop_store (z := 2) rfl f7 b_b10 f13 (len92 _) (by rw [len92]; decide) (ok92 _) (st_92_0_92 _ _)) (by simp [f1, f5, f7, f8, f9, f10, f13]) rfl (fun t' ht' => ?_)
   refine gn (fun t H n => Q1_8 a0 caps1 first1 g1 t ∧ t 5 = slc o2 v3.length co2 ∧ t 7 = .own b10 0 ∧ t 10 = .sc (.int .i64 v4) ∧ H b10 = some (.cells (c92 x9) 92) ∧ b10 < n ∧ OwnC H 92 2 c92 o2 co2 v3 ∧ (∀ i, o2 = some i → i < n) ∧ (∀ i, o2 = some i → i ≠ b10)) (j4 (by simp [ht', f1, f8, f9, f5, f7, f10]) ⟨upd_same _ _ _, l_b10, b_o2.mono (fun i hi => upd_ne _ _ (d_b10_o2 i hi)), l_o2, d_b10_o2⟩) fun t H n q => ?_
   obtain ⟨x11, hx11, h⟩ := bnd h
   apply eY 5; simp [q, ld_92_0_92]
   refine Stk.cv (g := g1) (first := first1) (caps := caps1) (args := first1 ++ [.agg (c92 x9)] ++ caps1) (args' := first1 ++ [.agg (c92 x9)] ++ caps1) (v := .agg (c92 x11)) [] (hφ1 _ _ hx11) (by simp [q, ld_92_0_92]) rfl (by simp [q, ld_92_0_92]) (by simp [q, ld_92_0_92]) (viewL_mid (x := [.agg (c92 x9)]) (y := [.agg (c92 x9)]) fr1.1 fr1.2 (.cons (.free (fr92 _)) (.nil))) (.inl ⟨rfl, fr92 _⟩) ?_
   rintro _ rfl
   refine gn (fun t H n => Q1_8 a0 caps1 first1 g1 t ∧ t 10 = .sc (.int .i64 v4) ∧ t 14 = slc o2 v3.length co2 ∧ t 17 = .agg (c92 x11) ∧ OwnC H 92 2 c92 o2 co2 v3 ∧ (∀ i, o2 = some i → i < n)) (by have ⟨⟨_, _, _⟩, _, _, _, _, _, _, _, _⟩ := q; and_intros <;> first | assumption | simp [q, ld_92_0_92]) fun t H n q => ?_
   refine Stk.om (mop_buildN (c := c92) (z := 2) T.t70 rfl T.t92 rfl (by decide) rfl (by decide) [x11] rfl (.cons q.2.2.2.1 rfl rfl rfl (len92 _) (by simp [length_encs]) (splice_next (c := c92) [] _ x11 rfl (by simp)) (.nil))) (by simp [q]) rfl (fun t' ht' => ?_)
   refine gn (fun t H n => ∃ b12, Q1_8 a0 caps1 first1 g1 t ∧ t 10 = .sc (.int .i64 v4) ∧ t 14 = slc o2 v3.length co2 ∧ t 18 = .osl b12 0 ([x11] : List ACon).length (some ([x11] : List ACon).length) ∧ H b12 = some (.cells (encs c92 ([x11] : List ACon)) 92) ∧ b12 < n ∧ OwnC H 92 2 c92 o2 co2 v3 ∧ (∀ i, o2 = some i → i < n) ∧ (∀ i, o2 = some i → i ≠ b12)) ⟨n, j4 (by simp [ht', q]) ⟨upd_same _ _ _, Nat.lt_succ_self _, q.2.2.2.2.1.mono (fun i hi => upd_ne _ _ (Nat.ne_of_lt (q.2.2.2.2.2 i hi))), fun i hi => Nat.lt_succ_of_lt (q.2.2.2.2.2 i hi), fun i hi => Nat.ne_of_lt (q.2.2.2.2.2 i hi)⟩⟩ fun t H n ⟨b12, ⟨f1, f8, f9⟩, f10, f14, f18, b_b12, l_b12, b_o2, l_o2, d_b12_o2⟩ => ?_
   obtain ⟨x13, hx13, h⟩ := bnd h
   obtain ⟨r1x13, r2x13, r3x13⟩ := appM_ok hx13
   obtain ⟨o14, co14, H9, n9, e9, w9, le9, fr9, kp9⟩ := append_ownC (e := c92) (z := 2) (st := 70) T.t70 rfl T.t92 rfl (by decide) rfl (by decide) b_o2 l_o2 (y := .osl b12 0 ([x11] : List ACon).length (some ([x11] : List ACon).length)) ([x11] : List ACon) (elems_row b_b12 _) (all_encs ok92 _) r1x13 r2x13
   rw [r3x13] at e9 w9
   refine Stk.om ((mop_append T.t70 rfl).trans (by rw [show ev t (.tmp 14) = t 14 from rfl, f14]; rw [show ev t (.tmp 18) = t 18 from rfl, f18];  exact e9)) (by simp [f1, f8, f9, f10, f14, f18]) rfl (fun t' ht' => ?_)
   refine gn (fun t H n => Q1_8 a0 caps1 first1 g1 t ∧ t 10 = .sc (.int .i64 v4) ∧ t 19 = slc o14 x13.length co14 ∧ OwnC H 92 2 c92 o14 co14 x13 ∧ (∀ i, o14 = some i → i < n)) (j3 (by simp [ht', f1, f8, f9, f10]) ⟨w9, fun i hi => (fr9 i hi).2⟩) fun t H n q => ?_
   apply eY 7; simp [q]
   exact lm (hJ1 _ _ _ _ ⟨o14, co14, x13, (IntKind.i64.wrap (v4 + 1)), h, by have ⟨⟨_, _, _⟩, _, _, _, _⟩ := q; and_intros <;> first | assumption | simp [q]⟩)
  ·have h := cF hb8 h
   refine Stk.ex rfl ?_
   apply eY 6; simp [q]
   obtain rfl := sj h
   exact (hr _ _ _ (slc o2 v3.length co2) (o2.toList) (by simp [q]) (.inr (.inr (view_ownC fr92 q.2.2.2.2.2.1 (fun i hi => by simp [hi]))))).1
end Go.Proofs.YtappiofmkoelnaaGreatDoor.M
end
