/-
  Functions, as Lean functions that may have no answer.
-/
import Derived.Test.YtappiofmkoelnaaTtT
namespace Go.Proofs.Ytappiofmkoelnaa.M
open Go.Proofs.YtappiofmkoelnaaW.Ah Go.Proofs.Ytappiofmkoelnaa
set_option linter.unusedVariables false
set_option linter.unusedSimpArgs false
set_option maxRecDepth 8000
def R04_LightType_L0 (F : Nat) (ρ14 : api_Type → Int → Option Int) (a0 : api_Type) : Nat → Int → Int → Option Int
 | 0, _, _ => none
 | m + 1, v2, v3 =>
 bif ((decide (v3 < (a0.Parts.length : Int))) && (decide (0 ≤ v2))) then ((idx a0.Parts v3).bind fun x7 =>
 (ρ14 x7 v2).bind fun x8 =>
 R04_LightType_L0 F ρ14 a0 m x8 (IntKind.i64.wrap (v3 + 1)))
 else (some v2)
def R04_LightType_B (F : Nat) (ρ14 : api_Type → Int → Option Int) (a0 : api_Type) (a1 : Int) : Option Int :=
 R04_LightType_L0 F ρ14 a0 F (IntKind.i64.wrap ((IntKind.i64.wrap (a1 - 1)) - (if 1048576 < (a0.Name.size : Int) then 1048576 else (a0.Name.size : Int)))) 0
def R04_LightType : Nat → api_Type → Int → Option Int
 | 0, _, _ => none
 | F + 1, a0, a1 => R04_LightType_B F (R04_LightType F) a0 a1

def R04_LightPat_L0 (F : Nat) (ρ41 : api_Pat → Int → Option Int) (a0 : api_Pat) : Nat → Int → Int → Option Int
 | 0, _, _ => none
 | m + 1, v2, v3 =>
 bif ((decide (v3 < (a0.Kids.length : Int))) && (decide (0 ≤ v2))) then ((idx a0.Kids v3).bind fun x7 =>
 (ρ41 x7 v2).bind fun x8 =>
 R04_LightPat_L0 F ρ41 a0 m x8 (IntKind.i64.wrap (v3 + 1)))
 else (some v2)
def R04_LightPat_B (F : Nat) (ρ41 : api_Pat → Int → Option Int) (a0 : api_Pat) (a1 : Int) : Option Int :=
 R04_LightPat_L0 F ρ41 a0 F (IntKind.i64.wrap ((IntKind.i64.wrap (a1 - 1)) - (if 1048576 < (a0.Name.size : Int) then 1048576 else (a0.Name.size : Int)))) 0
def R04_LightPat : Nat → api_Pat → Int → Option Int
 | 0, _, _ => none
 | F + 1, a0, a1 => R04_LightPat_B F (R04_LightPat F) a0 a1

def R04_Light_L1 (F : Nat) (ρ32 : api_Expr → Int → Option Int) (a0 : api_Expr) : Nat → Int → Int → Option Int
 | 0, _, _ => none
 | m + 1, v10, v11 =>
 bif ((decide (v11 < (a0.Arms.length : Int))) && (decide (0 ≤ v10))) then ((idx a0.Arms v11).bind fun x15 =>
 (R04_LightPat F x15.Pat v10).bind fun x16 =>
 (ρ32 x15.Body x16).bind fun x17 =>
 R04_Light_L1 F ρ32 a0 m x17 (IntKind.i64.wrap (v11 + 1)))
 else (some v10)
def R04_Light_L0 (F : Nat) (ρ32 : api_Expr → Int → Option Int) (a0 : api_Expr) (K1 : Int → Option Int) : Nat → Int → Int → Option Int
 | 0, _, _ => none
 | m + 1, v3, v4 =>
 bif ((decide (v4 < (a0.Kids.length : Int))) && (decide (0 ≤ v3))) then ((idx a0.Kids v4).bind fun x8 =>
 (ρ32 x8 v3).bind fun x9 =>
 R04_Light_L0 F ρ32 a0 K1 m x9 (IntKind.i64.wrap (v4 + 1)))
 else (K1 v3)
def R04_Light_B (F : Nat) (ρ32 : api_Expr → Int → Option Int) (a0 : api_Expr) (a1 : Int) : Option Int :=
 joinM (fun (v2 : Int) =>
 R04_Light_L1 F ρ32 a0 F v2 0) fun K1 =>
 R04_Light_L0 F ρ32 a0 K1 F (IntKind.i64.wrap ((IntKind.i64.wrap ((IntKind.i64.wrap (a1 - 1)) - (if 1048576 < (a0.Bytes.length : Int) then 1048576 else (a0.Bytes.length : Int)))) - (if 1048576 < (a0.Name.size : Int) then 1048576 else (a0.Name.size : Int)))) 0
def R04_Light : Nat → api_Expr → Int → Option Int
 | 0, _, _ => none
 | F + 1, a0, a1 => R04_Light_B F (R04_Light F) a0 a1

def R04_LightProg_L4 (F : Nat) (a0 : api_Prog) : Nat → Int → Int → Option Int
 | 0, _, _ => none
 | m + 1, v39, v40 =>
 bif ((decide (v40 < (a0.Hands.length : Int))) && (decide (0 ≤ v39))) then ((idx a0.Hands v40).bind fun x44 =>
 (R04_LightType F x44.Param.Type_ (IntKind.i64.wrap ((IntKind.i64.wrap ((IntKind.i64.wrap (v39 - 1)) - (if 1048576 < (x44.Name.size : Int) then 1048576 else (x44.Name.size : Int)))) - (if 1048576 < (x44.Param.Name.size : Int) then 1048576 else (x44.Param.Name.size : Int))))).bind fun x46 =>
 (R04_Light F x44.Body x46).bind fun x47 =>
 R04_LightProg_L4 F a0 m x47 (IntKind.i64.wrap (v40 + 1)))
 else (some v39)
def R04_LightProg_L3 (F : Nat) (x27 : api_Fun) (K10 : Int → Option Int) : Nat → Int → Int → Option Int
 | 0, _, _ => none
 | m + 1, v32, v33 =>
 bif ((decide (v33 < (x27.Params.length : Int))) && (decide (0 ≤ v32))) then ((idx x27.Params v33).bind fun x37 =>
 (R04_LightType F x37.Type_ (IntKind.i64.wrap (v32 - (if 1048576 < (x37.Name.size : Int) then 1048576 else (x37.Name.size : Int))))).bind fun x38 =>
 R04_LightProg_L3 F x27 K10 m x38 (IntKind.i64.wrap (v33 + 1)))
 else (K10 v32)
def R04_LightProg_L2 (F : Nat) (a0 : api_Prog) (K7 : Int → Option Int) : Nat → Int → Int → Option Int
 | 0, _, _ => none
 | m + 1, v22, v23 =>
 bif ((decide (v23 < (a0.Funs.length : Int))) && (decide (0 ≤ v22))) then ((idx a0.Funs v23).bind fun x27 =>
 (R04_LightType F x27.Result (IntKind.i64.wrap ((IntKind.i64.wrap (v22 - 1)) - (if 1048576 < (x27.Name.size : Int) then 1048576 else (x27.Name.size : Int))))).bind fun x29 =>
 (R04_Light F x27.Body x29).bind fun x30 =>
 joinM (fun (v31 : Int) =>
 R04_LightProg_L2 F a0 K7 m v31 (IntKind.i64.wrap (v23 + 1))) fun K10 =>
 R04_LightProg_L3 F x27 K10 F x30 0)
 else (K7 v22)
def R04_LightProg_L1 (F : Nat) (a0 : api_Prog) (v6 : Int) (K4 : Int → Option Int) : Nat → Int → Int → Option Int
 | 0, _, _ => none
 | m + 1, v12, v13 =>
 (idx a0.Datas v6).bind fun x16 =>
 bif ((decide (v13 < (x16.Cons.length : Int))) && (decide (0 ≤ v12))) then ((idx a0.Datas v6).bind fun x18 =>
 (idx x18.Cons v13).bind fun x19 =>
 (R04_LightType F (api_Type.mk 0 x19.Name x19.Fields) v12).bind fun x20 =>
 R04_LightProg_L1 F a0 v6 K4 m x20 (IntKind.i64.wrap (v13 + 1)))
 else (K4 v12)
def R04_LightProg_L0 (F : Nat) (a0 : api_Prog) (K1 : Int → Option Int) : Nat → Int → Int → Option Int
 | 0, _, _ => none
 | m + 1, v5, v6 =>
 bif ((decide (v6 < (a0.Datas.length : Int))) && (decide (0 ≤ v5))) then ((idx a0.Datas v6).bind fun x10 =>
 joinM (fun (v11 : Int) =>
 R04_LightProg_L0 F a0 K1 m v11 (IntKind.i64.wrap (v6 + 1))) fun K4 =>
 R04_LightProg_L1 F a0 v6 K4 F (IntKind.i64.wrap ((IntKind.i64.wrap (v5 - 1)) - (if 1048576 < (x10.Name.size : Int) then 1048576 else (x10.Name.size : Int)))) 0)
 else (K1 v5)
def R04_LightProg (F : Nat) (a0 : api_Prog) (a1 : Int) : Option Int :=
 (R04_LightType F a0.State a1).bind fun x2 =>
 (R04_Light F a0.Init x2).bind fun x3 =>
 joinM (fun (v4 : Int) =>
 joinM (fun (v21 : Int) =>
 R04_LightProg_L4 F a0 F v21 0) fun K7 =>
 R04_LightProg_L2 F a0 K7 F v4 0) fun K1 =>
 R04_LightProg_L0 F a0 K1 F x3 0
def L07_light_L1 (F : Nat) (a0 : (List api_Data)) (v3 : Int) (K4 : Int → Option Bool) : Nat → Int → Int → Option Bool
 | 0, _, _ => none
 | m + 1, v9, v10 =>
 (idx a0 v3).bind fun x13 =>
 bif ((decide (v10 < (x13.Cons.length : Int))) && (decide (0 ≤ v9))) then ((idx a0 v3).bind fun x15 =>
 (idx x15.Cons v10).bind fun x16 =>
 (R04_LightType F (api_Type.mk 0 x16.Name x16.Fields) v9).bind fun x17 =>
 L07_light_L1 F a0 v3 K4 m x17 (IntKind.i64.wrap (v10 + 1)))
 else (K4 v9)
def L07_light_L0 (F : Nat) (a0 : (List api_Data)) (K1 : Int → Option Bool) : Nat → Int → Int → Option Bool
 | 0, _, _ => none
 | m + 1, v2, v3 =>
 bif ((decide (v3 < (a0.length : Int))) && (decide (0 ≤ v2))) then ((idx a0 v3).bind fun x7 =>
 joinM (fun (v8 : Int) =>
 L07_light_L0 F a0 K1 m v8 (IntKind.i64.wrap (v3 + 1))) fun K4 =>
 L07_light_L1 F a0 v3 K4 F (IntKind.i64.wrap (v2 - (IntKind.i64.wrap (1 + (if 2000 < (x7.Name.size : Int) then 2000 else (x7.Name.size : Int)))))) 0)
 else (K1 v2)
def L07_light (F : Nat) (a0 : (List api_Data)) : Option Bool :=
 joinM (fun (v1 : Int) =>
 some ((decide (0 ≤ v1)) && (decide ((a0.length : Int) ≤ 60)))) fun K1 =>
 L07_light_L0 F a0 K1 F 2000 0
def L07_awake (F : Nat) : Option Bool := some true
def slices_IndexFunc_api_Con_api_Con_L0 (F : Nat) (a0 : (List api_Con)) (φ1 : api_Con → Option Bool) : Nat → Int → Option Int
 | 0, _ => none
 | m + 1, v1 =>
 bif (decide (v1 < (a0.length : Int))) then ((idx a0 v1).bind fun x4 =>
 (φ1 x4).bind fun x5 =>
 bif x5 then (some v1)
 else (slices_IndexFunc_api_Con_api_Con_L0 F a0 φ1 m (IntKind.i64.wrap (v1 + 1))))
 else (some (-1))
def slices_IndexFunc_api_Con_api_Con (F : Nat) (a0 : (List api_Con)) (φ1 : api_Con → Option Bool) : Option Int :=
 slices_IndexFunc_api_Con_api_Con_L0 F a0 φ1 F 0
def ty_Con_1 (F : Nat) (a0 : api_Con) (a1 : ByteArray) : Option Bool :=
 some (a0.Name.toList == a1.toList)
def ty_Con_L0 (F : Nat) (a0 : (List api_Data)) (a1 : ByteArray) : Nat → Int → Option (Int × Int × Bool)
 | 0, _ => none
 | m + 1, v2 =>
 bif (decide (v2 < (a0.length : Int))) then ((idx a0 v2).bind fun x5 =>
 (slices_IndexFunc_api_Con_api_Con F x5.Cons (fun y0 => ty_Con_1 F y0 a1)).bind fun x7 =>
 bif (decide (0 ≤ x7)) then (some (v2, x7, true))
 else (ty_Con_L0 F a0 a1 m (IntKind.i64.wrap (v2 + 1))))
 else (some (0, 0, false))
def ty_Con (F : Nat) (a0 : (List api_Data)) (a1 : ByteArray) : Option (Int × Int × Bool) :=
 ty_Con_L0 F a0 a1 F 0
def R07_Con_L1 (F : Nat) (a0 : (List api_Data)) (a1 : ByteArray) (v1 : Int) (K2 : Unit → Option (Int × Int × Bool)) : Nat → Int → Option (Int × Int × Bool)
 | 0, _ => none
 | m + 1, v4 =>
 (idx a0 v1).bind fun x6 =>
 bif (decide (v4 < (x6.Cons.length : Int))) then ((idx a0 v1).bind fun x8 =>
 (idx x8.Cons v4).bind fun x9 =>
 bif (x9.Name.toList == a1.toList) then (some (v1, v4, true))
 else (R07_Con_L1 F a0 a1 v1 K2 m (IntKind.i64.wrap (v4 + 1))))
 else (K2 ())
def R07_Con_L0 (F : Nat) (a0 : (List api_Data)) (a1 : ByteArray) : Nat → Int → Option (Int × Int × Bool)
 | 0, _ => none
 | m + 1, v1 =>
 bif (decide (v1 < (a0.length : Int))) then (joinM (fun (_ : Unit) =>
 R07_Con_L0 F a0 a1 m (IntKind.i64.wrap (v1 + 1))) fun K2 =>
 R07_Con_L1 F a0 a1 v1 K2 F 0)
 else (some (0, 0, false))
def R07_Con (F : Nat) (a0 : (List api_Data)) (a1 : ByteArray) : Option (Int × Int × Bool) :=
 R07_Con_L0 F a0 a1 F 0
def ty_num (F : Nat) : Option api_Type :=
 some (api_Type.mk 0 ⟨#[]⟩ [])
def ty_act (F : Nat) : Option api_Type :=
 some (api_Type.mk 2 (⟨#[97, 99, 116]⟩ : ByteArray) [])
def ty_always (F : Nat) : Option (List api_Data) :=
 (ty_num F).bind fun x2 =>
 (ty_act F).bind fun x3 =>
 (ty_act F).bind fun x5 =>
 (ty_num F).bind fun x7 =>
 (ty_num F).bind fun x8 =>
 (ty_act F).bind fun x9 =>
 (ty_num F).bind fun x11 =>
 (ty_act F).bind fun x12 =>
 some ([(api_Data.mk (api_Pos.mk 0 0) (⟨#[98, 111, 111, 108]⟩ : ByteArray) ([(api_Con.mk (⟨#[70, 97, 108, 115, 101]⟩ : ByteArray) []), (api_Con.mk (⟨#[84, 114, 117, 101]⟩ : ByteArray) [])] : List api_Con)), (api_Data.mk (api_Pos.mk 0 0) (⟨#[97, 99, 116]⟩ : ByteArray) ([(api_Con.mk (⟨#[68, 111, 110, 101]⟩ : ByteArray) []), (api_Con.mk (⟨#[83, 97, 121]⟩ : ByteArray) ([x2, x3] : List api_Type)), (api_Con.mk (⟨#[84, 101, 108, 108]⟩ : ByteArray) ([(api_Type.mk 1 ⟨#[]⟩ []), x5] : List api_Type)), (api_Con.mk (⟨#[65, 114, 109]⟩ : ByteArray) ([x7, x8, x9] : List api_Type)), (api_Con.mk (⟨#[83, 116, 111, 112]⟩ : ByteArray) ([x11, x12] : List api_Type))] : List api_Con))] : List api_Data)
def ty_own_L0 (F : Nat) (ρ34 : api_Type → Option api_Type) (a0 : api_Type) (K1 : (List api_Type) → Option api_Type) : Nat → List api_Type → Int → Option api_Type
 | 0, _, _ => none
 | m + 1, v7, v8 =>
 bif (decide (v8 < (a0.Parts.length : Int))) then ((idx a0.Parts v8).bind fun x13 =>
 (ρ34 x13).bind fun x15 =>
 (appM 48 v7 ([x15] : List api_Type)).bind fun x17 =>
 ty_own_L0 F ρ34 a0 K1 m x17 (IntKind.i64.wrap (v8 + 1)))
 else (K1 v7)
def ty_own_B (F : Nat) (ρ34 : api_Type → Option api_Type) (a0 : api_Type) : Option api_Type :=
 joinM (fun (v5 : List api_Type) =>
 some ({ a0 with Parts := v5 })) fun K1 =>
 ty_own_L0 F ρ34 a0 K1 F ([] : List api_Type) 0
def ty_own : Nat → api_Type → Option api_Type
 | 0, _ => none
 | F + 1, a0 => ty_own_B F (ty_own F) a0

def ty_Datas_L1 (F : Nat) (x11 : api_Data) (K2 : (List api_Con) → Option (List api_Data)) : Nat → List api_Con → Int → Option (List api_Data)
 | 0, _, _ => none
 | m + 1, v17, v18 =>
 bif (decide (v18 < (x11.Cons.length : Int))) then ((idx x11.Cons v18).bind fun x23 =>
 (ty_own F (api_Type.mk 0 ⟨#[]⟩ x23.Fields)).bind fun x25 =>
 (appM 40 v17 ([(api_Con.mk x23.Name x25.Parts)] : List api_Con)).bind fun x27 =>
 ty_Datas_L1 F x11 K2 m x27 (IntKind.i64.wrap (v18 + 1)))
 else (K2 v17)
def ty_Datas_L0 (F : Nat) (a0 : api_Prog) : Nat → List api_Data → Int → Option (List api_Data)
 | 0, _, _ => none
 | m + 1, v5, v6 =>
 bif (decide (v6 < (a0.Datas.length : Int))) then ((idx a0.Datas v6).bind fun x11 =>
 joinM (fun (v15 : List api_Con) =>
 (appM 56 v5 ([{ x11 with Cons := v15 }] : List api_Data)).bind fun x30 =>
 ty_Datas_L0 F a0 m x30 (IntKind.i64.wrap (v6 + 1))) fun K2 =>
 ty_Datas_L1 F x11 K2 F ([] : List api_Con) 0)
 else (some v5)
def ty_Datas (F : Nat) (a0 : api_Prog) : Option (List api_Data) :=
 (ty_always F).bind fun x2 =>
 ty_Datas_L0 F a0 F x2 0
def R07_Datas (F : Nat) (a0 : api_Prog) : Option (List api_Data) :=
 (appM 56 ([(api_Data.mk (api_Pos.mk 0 0) (⟨#[98, 111, 111, 108]⟩ : ByteArray) ([(api_Con.mk (⟨#[70, 97, 108, 115, 101]⟩ : ByteArray) []), (api_Con.mk (⟨#[84, 114, 117, 101]⟩ : ByteArray) [])] : List api_Con)), (api_Data.mk (api_Pos.mk 0 0) (⟨#[97, 99, 116]⟩ : ByteArray) ([(api_Con.mk (⟨#[68, 111, 110, 101]⟩ : ByteArray) []), (api_Con.mk (⟨#[83, 97, 121]⟩ : ByteArray) ([(api_Type.mk 0 ⟨#[]⟩ []), (api_Type.mk 2 (⟨#[97, 99, 116]⟩ : ByteArray) [])] : List api_Type)), (api_Con.mk (⟨#[84, 101, 108, 108]⟩ : ByteArray) ([(api_Type.mk 1 ⟨#[]⟩ []), (api_Type.mk 2 (⟨#[97, 99, 116]⟩ : ByteArray) [])] : List api_Type)), (api_Con.mk (⟨#[65, 114, 109]⟩ : ByteArray) ([(api_Type.mk 0 ⟨#[]⟩ []), (api_Type.mk 0 ⟨#[]⟩ []), (api_Type.mk 2 (⟨#[97, 99, 116]⟩ : ByteArray) [])] : List api_Type)), (api_Con.mk (⟨#[83, 116, 111, 112]⟩ : ByteArray) ([(api_Type.mk 0 ⟨#[]⟩ []), (api_Type.mk 2 (⟨#[97, 99, 116]⟩ : ByteArray) [])] : List api_Type))] : List api_Con))] : List api_Data) a0.Datas).bind fun x11 =>
 some x11
def R04_SameType_L0 (F : Nat) (ρ36 : api_Type → api_Type → Option Bool) (a0 : api_Type) (a1 : api_Type) : Nat → Int → Option Bool
 | 0, _ => none
 | m + 1, v4 =>
 bif (decide (v4 < (a0.Parts.length : Int))) then ((idx a0.Parts v4).bind fun x7 =>
 (idx a1.Parts v4).bind fun x8 =>
 (ρ36 x7 x8).bind fun x9 =>
 bif (!x9) then (some false)
 else (R04_SameType_L0 F ρ36 a0 a1 m (IntKind.i64.wrap (v4 + 1))))
 else (some true)
def R04_SameType_B (F : Nat) (ρ36 : api_Type → api_Type → Option Bool) (a0 : api_Type) (a1 : api_Type) : Option Bool :=
 bif (((a0.Kind != a1.Kind) || (!(a0.Name.toList == a1.Name.toList))) || ((a0.Parts.length : Int) != (a1.Parts.length : Int))) then (some false)
 else (R04_SameType_L0 F ρ36 a0 a1 F 0)
def R04_SameType : Nat → api_Type → api_Type → Option Bool
 | 0, _, _ => none
 | F + 1, a0, a1 => R04_SameType_B F (R04_SameType F) a0 a1

def R07_Same (F : Nat) (a0 : api_Type) (a1 : api_Type) : Option Bool :=
 (R04_SameType F a0 a1).bind fun x3 =>
 some x3
def R07_SameDatas_L1 (F : Nat) (a0 : (List api_Data)) (a1 : (List api_Data)) (v2 : Int) (K3 : Unit → Option Bool) : Nat → Int → Option Bool
 | 0, _ => none
 | m + 1, v11 =>
 (idx a0 v2).bind fun x13 =>
 bif (decide (v11 < (x13.Cons.length : Int))) then ((idx a0 v2).bind fun x15 =>
 (idx x15.Cons v11).bind fun x16 =>
 (idx a1 v2).bind fun x18 =>
 (idx x18.Cons v11).bind fun x19 =>
 joinM (fun (v21 : Bool) =>
 bif v21 then (some false)
 else (R07_SameDatas_L1 F a0 a1 v2 K3 m (IntKind.i64.wrap (v11 + 1)))) fun K5 =>
 bif (!(x16.Name.toList == x19.Name.toList)) then (K5 true)
 else ((R07_Same F (api_Type.mk 0 ⟨#[]⟩ x16.Fields) (api_Type.mk 0 ⟨#[]⟩ x19.Fields)).bind fun x22 =>
 K5 (!x22)))
 else (K3 ())
def R07_SameDatas_L0 (F : Nat) (a0 : (List api_Data)) (a1 : (List api_Data)) : Nat → Int → Option Bool
 | 0, _ => none
 | m + 1, v2 =>
 bif (decide (v2 < (a0.length : Int))) then ((idx a0 v2).bind fun x5 =>
 (idx a1 v2).bind fun x6 =>
 joinM (fun (v7 : Bool) =>
 bif v7 then (some false)
 else (joinM (fun (_ : Unit) =>
 R07_SameDatas_L0 F a0 a1 m (IntKind.i64.wrap (v2 + 1))) fun K3 =>
 R07_SameDatas_L1 F a0 a1 v2 K3 F 0)) fun K2 =>
 bif (!(x5.Name.toList == x6.Name.toList)) then (K2 true)
 else ((idx a0 v2).bind fun x8 =>
 (idx a1 v2).bind fun x9 =>
 K2 ((x8.Cons.length : Int) != (x9.Cons.length : Int))))
 else (some true)
def R07_SameDatas (F : Nat) (a0 : (List api_Data)) (a1 : (List api_Data)) : Option Bool :=
 bif ((a0.length : Int) != (a1.length : Int)) then (some false)
 else (R07_SameDatas_L0 F a0 a1 F 0)
def slices_IndexFunc_api_Data_api_Data_L0 (F : Nat) (a0 : (List api_Data)) (φ1 : api_Data → Option Bool) : Nat → Int → Option Int
 | 0, _ => none
 | m + 1, v1 =>
 bif (decide (v1 < (a0.length : Int))) then ((idx a0 v1).bind fun x4 =>
 (φ1 x4).bind fun x5 =>
 bif x5 then (some v1)
 else (slices_IndexFunc_api_Data_api_Data_L0 F a0 φ1 m (IntKind.i64.wrap (v1 + 1))))
 else (some (-1))
def slices_IndexFunc_api_Data_api_Data (F : Nat) (a0 : (List api_Data)) (φ1 : api_Data → Option Bool) : Option Int :=
 slices_IndexFunc_api_Data_api_Data_L0 F a0 φ1 F 0
def ty_Find_1 (F : Nat) (a0 : api_Data) (a1 : ByteArray) : Option Bool :=
 some (a0.Name.toList == a1.toList)
def ty_Find (F : Nat) (a0 : (List api_Data)) (a1 : ByteArray) : Option Int :=
 (slices_IndexFunc_api_Data_api_Data F a0 (fun y0 => ty_Find_1 F y0 a1)).bind fun x2 =>
 some x2
def R07_Find_L0 (F : Nat) (a0 : (List api_Data)) (a1 : ByteArray) : Nat → Int → Option Int
 | 0, _ => none
 | m + 1, v1 =>
 bif (decide (v1 < (a0.length : Int))) then ((idx a0 v1).bind fun x4 =>
 bif (x4.Name.toList == a1.toList) then (some v1)
 else (R07_Find_L0 F a0 a1 m (IntKind.i64.wrap (v1 + 1))))
 else (some (-1))
def R07_Find (F : Nat) (a0 : (List api_Data)) (a1 : ByteArray) : Option Int :=
 R07_Find_L0 F a0 a1 F 0
def slices_IndexFunc_api_Type_api_Type_L0 (F : Nat) (a0 : (List api_Type)) (φ1 : api_Type → Option Bool) : Nat → Int → Option Int
 | 0, _ => none
 | m + 1, v1 =>
 bif (decide (v1 < (a0.length : Int))) then ((idx a0 v1).bind fun x4 =>
 (φ1 x4).bind fun x5 =>
 bif x5 then (some v1)
 else (slices_IndexFunc_api_Type_api_Type_L0 F a0 φ1 m (IntKind.i64.wrap (v1 + 1))))
 else (some (-1))
def slices_IndexFunc_api_Type_api_Type (F : Nat) (a0 : (List api_Type)) (φ1 : api_Type → Option Bool) : Option Int :=
 slices_IndexFunc_api_Type_api_Type_L0 F a0 φ1 F 0
def slices_ContainsFunc_api_Type_api_Type (F : Nat) (a0 : (List api_Type)) (φ1 : api_Type → Option Bool) : Option Bool :=
 (slices_IndexFunc_api_Type_api_Type F a0 φ1).bind fun x1 =>
 some (decide (0 ≤ x1))
def ty_Known_B (F : Nat) (ρ11 : (List api_Data) → api_Type → Option Bool) (ρ31 : api_Type → (List api_Data) → Option Bool) (a0 : (List api_Data)) (a1 : api_Type) : Option Bool :=
 joinM (fun (v3 : Bool) =>
 bif v3 then (some false)
 else ((slices_ContainsFunc_api_Type_api_Type F a1.Parts (fun y0 => ρ31 y0 a0)).bind fun x6 =>
 some (!x6))) fun K1 =>
 bif (a1.Kind == 2) then ((ty_Find F a0 a1.Name).bind fun x4 =>
 K1 (decide (x4 < 0)))
 else (K1 false)
def ty_Known_1_B (F : Nat) (ρ11 : (List api_Data) → api_Type → Option Bool) (ρ31 : api_Type → (List api_Data) → Option Bool) (a0 : api_Type) (a1 : (List api_Data)) : Option Bool :=
 (ρ11 a1 a0).bind fun x2 =>
 some (!x2)
mutual
def ty_Known : Nat → (List api_Data) → api_Type → Option Bool
 | 0, _, _ => none
 | F + 1, a0, a1 => ty_Known_B F (ty_Known F) (ty_Known_1 F) a0 a1
def ty_Known_1 : Nat → api_Type → (List api_Data) → Option Bool
 | 0, _, _ => none
 | F + 1, a0, a1 => ty_Known_1_B F (ty_Known F) (ty_Known_1 F) a0 a1
end

def R07_Known_L0 (F : Nat) (ρ19 : (List api_Data) → api_Type → Option Bool) (a0 : (List api_Data)) (a1 : api_Type) : Nat → Int → Option Bool
 | 0, _ => none
 | m + 1, v5 =>
 bif (decide (v5 < (a1.Parts.length : Int))) then ((idx a1.Parts v5).bind fun x8 =>
 (ρ19 a0 x8).bind fun x9 =>
 bif (!x9) then (some false)
 else (R07_Known_L0 F ρ19 a0 a1 m (IntKind.i64.wrap (v5 + 1))))
 else (some true)
def R07_Known_B (F : Nat) (ρ19 : (List api_Data) → api_Type → Option Bool) (a0 : (List api_Data)) (a1 : api_Type) : Option Bool :=
 joinM (fun (v2 : Bool) =>
 bif v2 then (some false)
 else (R07_Known_L0 F ρ19 a0 a1 F 0)) fun K1 =>
 bif (a1.Kind == 2) then ((R07_Find F a0 a1.Name).bind fun x3 =>
 K1 (decide (x3 < 0)))
 else (K1 false)
def R07_Known : Nat → (List api_Data) → api_Type → Option Bool
 | 0, _, _ => none
 | F + 1, a0, a1 => R07_Known_B F (R07_Known F) a0 a1

def slices_EqualFunc_api_Type_api_Type_api_Type_api_Type_L0 (F : Nat) (a0 : (List api_Type)) (a1 : (List api_Type)) (φ2 : api_Type → api_Type → Option Bool) : Nat → Int → Option Bool
 | 0, _ => none
 | m + 1, v2 =>
 bif (decide (v2 < (a0.length : Int))) then ((idx a0 v2).bind fun x5 =>
 (idx a1 v2).bind fun x7 =>
 (φ2 x5 x7).bind fun x9 =>
 bif (!x9) then (some false)
 else (slices_EqualFunc_api_Type_api_Type_api_Type_api_Type_L0 F a0 a1 φ2 m (IntKind.i64.wrap (v2 + 1))))
 else (some true)
def slices_EqualFunc_api_Type_api_Type_api_Type_api_Type (F : Nat) (a0 : (List api_Type)) (a1 : (List api_Type)) (φ2 : api_Type → api_Type → Option Bool) : Option Bool :=
 bif ((a0.length : Int) != (a1.length : Int)) then (some false)
 else (slices_EqualFunc_api_Type_api_Type_api_Type_api_Type_L0 F a0 a1 φ2 F 0)
def ty_Same_B (F : Nat) (ρ20 : api_Type → api_Type → Option Bool) (a0 : api_Type) (a1 : api_Type) : Option Bool :=
 joinM (fun (v3 : Bool) =>
 some v3) fun K2 =>
 bif ((a0.Kind == a1.Kind) && (a0.Name.toList == a1.Name.toList)) then ((slices_EqualFunc_api_Type_api_Type_api_Type_api_Type F a0.Parts a1.Parts (fun y0 y1 => ρ20 y0 y1)).bind fun x4 =>
 K2 x4)
 else (K2 false)
def ty_Same : Nat → api_Type → api_Type → Option Bool
 | 0, _, _ => none
 | F + 1, a0, a1 => ty_Same_B F (ty_Same F) a0 a1

def L07_TyTells (F : Nat) (a0 : api_Prog) (a1 : (List api_Data)) (a2 : api_Type) (a3 : api_Type) (a4 : ByteArray) : Option Bool :=
 (R04_LightProg F a0 2000).bind fun x4 =>
 joinM (fun (v5 : Bool) =>
 joinM (fun (v7 : Bool) =>
 joinM (fun (v9 : Bool) =>
 bif (v9 || (decide (300 < (a4.size : Int)))) then ((L07_awake F).bind fun x12 =>
 some x12)
 else ((ty_Con F a1 a4).bind fun x13 =>
 (R07_Con F a1 a4).bind fun x14 =>
 (ty_Datas F a0).bind fun x15 =>
 (R07_Datas F a0).bind fun x16 =>
 (R07_SameDatas F x15 x16).bind fun x17 =>
 joinM (fun (v18 : Bool) =>
 joinM (fun (v21 : Bool) =>
 joinM (fun (v24 : Bool) =>
 joinM (fun (v27 : Bool) =>
 joinM (fun (v29 : Bool) =>
 some v29) fun K12 =>
 bif v27 then ((L07_awake F).bind fun x30 =>
 K12 x30)
 else (K12 false)) fun K11 =>
 bif v24 then ((ty_Same F a2 a2).bind fun x28 =>
 K11 x28)
 else (K11 false)) fun K10 =>
 bif v21 then ((ty_Same F a2 a3).bind fun x25 =>
 (R07_Same F a2 a3).bind fun x26 =>
 K10 (x25 == x26))
 else (K10 false)) fun K9 =>
 bif (((v18 && (x13.1 == x14.1)) && (x13.2.1 == x14.2.1)) && (x13.2.2 == x14.2.2)) then ((ty_Known F a1 a2).bind fun x22 =>
 (R07_Known F a1 a2).bind fun x23 =>
 K9 (x22 == x23))
 else (K9 false)) fun K5 =>
 bif x17 then ((ty_Find F a1 a4).bind fun x19 =>
 (R07_Find F a1 a4).bind fun x20 =>
 K5 (x19 == x20))
 else (K5 false))) fun K3 =>
 bif v7 then (K3 true)
 else ((R04_LightType F a3 2000).bind fun x10 =>
 K3 (decide (x10 < 0)))) fun K2 =>
 bif v5 then (K2 true)
 else ((R04_LightType F a2 2000).bind fun x8 =>
 K2 (decide (x8 < 0)))) fun K1 =>
 bif (decide (x4 < 0)) then (K1 true)
 else ((L07_light F a1).bind fun x6 =>
 K1 (!x6))
end Go.Proofs.Ytappiofmkoelnaa.M
