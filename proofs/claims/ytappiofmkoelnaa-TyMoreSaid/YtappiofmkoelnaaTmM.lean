/-
  Functions, as Lean functions that may have no answer.
-/
import Derived.Test.YtappiofmkoelnaaTmT
import Derived.Test.YtappiofmkoelnaaTmFD
namespace Go.Proofs.Ytappiofmkoelnaa.M
open Go.Proofs.YtappiofmkoelnaaW.Ah Go.Proofs.Ytappiofmkoelnaa
set_option linter.unusedVariables false
set_option linter.unusedSimpArgs false
set_option maxRecDepth 8000
def R04_LightType_L0 (F : Nat) (ρ14 : api_Type → Int → Option Int) (a0 : api_Type) : Nat → Int → Int → Option Int
 | 0, _, _ => none
 | m + 1, v2, v3 =>
 bif ((decide (v3 < (a0.Parts.length : Int))) && (decide (0 ≤ v2))) then ((idx a0.Parts v3).bind fun x7 =>
 (ρ14 x7 v2).bind fun x8 =>
 R04_LightType_L0 F ρ14 a0 m x8 (IntKind.i64.wrap (v3 + 1)))
 else (some v2)
def R04_LightType_B (F : Nat) (ρ14 : api_Type → Int → Option Int) (a0 : api_Type) (a1 : Int) : Option Int :=
 R04_LightType_L0 F ρ14 a0 F (IntKind.i64.wrap ((IntKind.i64.wrap (a1 - 1)) - (if 1048576 < (a0.Name.size : Int) then 1048576 else (a0.Name.size : Int)))) 0
def R04_LightType : Nat → api_Type → Int → Option Int
 | 0, _, _ => none
 | F + 1, a0, a1 => R04_LightType_B F (R04_LightType F) a0 a1

def L07_light_L1 (F : Nat) (a0 : (List api_Data)) (v3 : Int) (K4 : Int → Option Bool) : Nat → Int → Int → Option Bool
 | 0, _, _ => none
 | m + 1, v9, v10 =>
 (idx a0 v3).bind fun x13 =>
 bif ((decide (v10 < (x13.Cons.length : Int))) && (decide (0 ≤ v9))) then ((idx a0 v3).bind fun x15 =>
 (idx x15.Cons v10).bind fun x16 =>
 (R04_LightType F (api_Type.mk 0 x16.Name x16.Fields) v9).bind fun x17 =>
 L07_light_L1 F a0 v3 K4 m x17 (IntKind.i64.wrap (v10 + 1)))
 else (K4 v9)
def L07_light_L0 (F : Nat) (a0 : (List api_Data)) (K1 : Int → Option Bool) : Nat → Int → Int → Option Bool
 | 0, _, _ => none
 | m + 1, v2, v3 =>
 bif ((decide (v3 < (a0.length : Int))) && (decide (0 ≤ v2))) then ((idx a0 v3).bind fun x7 =>
 joinM (fun (v8 : Int) =>
 L07_light_L0 F a0 K1 m v8 (IntKind.i64.wrap (v3 + 1))) fun K4 =>
 L07_light_L1 F a0 v3 K4 F (IntKind.i64.wrap (v2 - (IntKind.i64.wrap (1 + (if 2000 < (x7.Name.size : Int) then 2000 else (x7.Name.size : Int)))))) 0)
 else (K1 v2)
def L07_light (F : Nat) (a0 : (List api_Data)) : Option Bool :=
 joinM (fun (v1 : Int) =>
 some ((decide (0 ≤ v1)) && (decide ((a0.length : Int) ≤ 60)))) fun K1 =>
 L07_light_L0 F a0 K1 F 2000 0
def L07_awake (F : Nat) : Option Bool := some true
def ty_Full (F : Nat) (a0 : List api_Data) : Option (List Bool) := bif okL a0 then some (fullP a0) else none

def slices_IndexFunc_api_Data_api_Data_L0 (F : Nat) (a0 : (List api_Data)) (φ1 : api_Data → Option Bool) : Nat → Int → Option Int
 | 0, _ => none
 | m + 1, v1 =>
 bif (decide (v1 < (a0.length : Int))) then ((idx a0 v1).bind fun x4 =>
 (φ1 x4).bind fun x5 =>
 bif x5 then (some v1)
 else (slices_IndexFunc_api_Data_api_Data_L0 F a0 φ1 m (IntKind.i64.wrap (v1 + 1))))
 else (some (-1))
def slices_IndexFunc_api_Data_api_Data (F : Nat) (a0 : (List api_Data)) (φ1 : api_Data → Option Bool) : Option Int :=
 slices_IndexFunc_api_Data_api_Data_L0 F a0 φ1 F 0
def ty_Find_1 (F : Nat) (a0 : api_Data) (a1 : ByteArray) : Option Bool :=
 some (a0.Name.toList == a1.toList)
def ty_Find (F : Nat) (a0 : (List api_Data)) (a1 : ByteArray) : Option Int :=
 (slices_IndexFunc_api_Data_api_Data F a0 (fun y0 => ty_Find_1 F y0 a1)).bind fun x2 =>
 some x2
def slices_IndexFunc_api_Type_api_Type_L0 (F : Nat) (a0 : (List api_Type)) (φ1 : api_Type → Option Bool) : Nat → Int → Option Int
 | 0, _ => none
 | m + 1, v1 =>
 bif (decide (v1 < (a0.length : Int))) then ((idx a0 v1).bind fun x4 =>
 (φ1 x4).bind fun x5 =>
 bif x5 then (some v1)
 else (slices_IndexFunc_api_Type_api_Type_L0 F a0 φ1 m (IntKind.i64.wrap (v1 + 1))))
 else (some (-1))
def slices_IndexFunc_api_Type_api_Type (F : Nat) (a0 : (List api_Type)) (φ1 : api_Type → Option Bool) : Option Int :=
 slices_IndexFunc_api_Type_api_Type_L0 F a0 φ1 F 0
def slices_ContainsFunc_api_Type_api_Type (F : Nat) (a0 : (List api_Type)) (φ1 : api_Type → Option Bool) : Option Bool :=
 (slices_IndexFunc_api_Type_api_Type F a0 φ1).bind fun x1 =>
 some (decide (0 ≤ x1))
def ty_Known_B (F : Nat) (ρ11 : (List api_Data) → api_Type → Option Bool) (ρ31 : api_Type → (List api_Data) → Option Bool) (a0 : (List api_Data)) (a1 : api_Type) : Option Bool :=
 joinM (fun (v3 : Bool) =>
 bif v3 then (some false)
 else ((slices_ContainsFunc_api_Type_api_Type F a1.Parts (fun y0 => ρ31 y0 a0)).bind fun x6 =>
 some (!x6))) fun K1 =>
 bif (a1.Kind == 2) then ((ty_Find F a0 a1.Name).bind fun x4 =>
 K1 (decide (x4 < 0)))
 else (K1 false)
def ty_Known_1_B (F : Nat) (ρ11 : (List api_Data) → api_Type → Option Bool) (ρ31 : api_Type → (List api_Data) → Option Bool) (a0 : api_Type) (a1 : (List api_Data)) : Option Bool :=
 (ρ11 a1 a0).bind fun x2 =>
 some (!x2)
mutual
def ty_Known : Nat → (List api_Data) → api_Type → Option Bool
 | 0, _, _ => none
 | F + 1, a0, a1 => ty_Known_B F (ty_Known F) (ty_Known_1 F) a0 a1
def ty_Known_1 : Nat → api_Type → (List api_Data) → Option Bool
 | 0, _, _ => none
 | F + 1, a0, a1 => ty_Known_1_B F (ty_Known F) (ty_Known_1 F) a0 a1
end

def R07_Find_L0 (F : Nat) (a0 : (List api_Data)) (a1 : ByteArray) : Nat → Int → Option Int
 | 0, _ => none
 | m + 1, v1 =>
 bif (decide (v1 < (a0.length : Int))) then ((idx a0 v1).bind fun x4 =>
 bif (x4.Name.toList == a1.toList) then (some v1)
 else (R07_Find_L0 F a0 a1 m (IntKind.i64.wrap (v1 + 1))))
 else (some (-1))
def R07_Find (F : Nat) (a0 : (List api_Data)) (a1 : ByteArray) : Option Int :=
 R07_Find_L0 F a0 a1 F 0
def L07_TyMore_L3 (F : Nat) (a0 : (List api_Data)) (x11 : (List Bool)) (x12 : (List Bool)) (v14 : Bool) : Nat → Int → Option Bool
 | 0, _ => none
 | m + 1, v57 =>
 bif (decide (v57 < (a0.length : Int))) then (joinM (fun (v60 : Bool) =>
 bif v60 then (some false)
 else (L07_TyMore_L3 F a0 x11 x12 v14 m (IntKind.i64.wrap (v57 + 1)))) fun K19 =>
 bif v14 then ((idx x11 v57).bind fun x61 =>
 (idx x12 v57).bind fun x62 =>
 K19 (!(x61 == x62)))
 else (K19 false))
 else ((L07_awake F).bind fun x64 =>
 some x64)
def L07_TyMore_L2 (F : Nat) (a0 : (List api_Data)) (x20 : api_Data) (x34 : api_Con) (K7 : Bool → Bool → Option Bool) : Nat → Bool → Bool → Int → Option Bool
 | 0, _, _, _ => none
 | m + 1, v38, v39, v40 =>
 bif (decide (v40 < (x34.Fields.length : Int))) then ((idx x34.Fields v40).bind fun x45 =>
 joinM (fun (v47 : Bool) =>
 L07_TyMore_L2 F a0 x20 x34 K7 m v47 (v39 || ((x45.Kind == 2) && (x45.Name.toList == x20.Name.toList))) (IntKind.i64.wrap (v40 + 1))) fun K9 =>
 bif v38 then ((ty_Known F a0 x45).bind fun x48 =>
 K9 x48)
 else (K9 false))
 else (K7 v38 v39)
def L07_TyMore_L1 (F : Nat) (a0 : (List api_Data)) (x20 : api_Data) (K5 : Bool → Bool → Bool → Option Bool) : Nat → Bool → Bool → Bool → Int → Option Bool
 | 0, _, _, _, _ => none
 | m + 1, v25, v26, v27, v28 =>
 bif (decide (v28 < (x20.Cons.length : Int))) then ((idx x20.Cons v28).bind fun x34 =>
 joinM (fun (v36 : Bool) (v37 : Bool) =>
 L07_TyMore_L1 F a0 x20 K5 m v36 (v26 || ((x34.Fields.length : Int) == 0)) (v27 && v37) (IntKind.i64.wrap (v28 + 1))) fun K7 =>
 L07_TyMore_L2 F a0 x20 x34 K7 F v25 false 0)
 else (K5 v25 v26 v27)
def L07_TyMore_L0 (F : Nat) (a0 : (List api_Data)) (x11 : (List Bool)) (K3 : Bool → Option Bool) : Nat → Bool → Int → Option Bool
 | 0, _, _ => none
 | m + 1, v15, v16 =>
 bif (decide (v16 < (a0.length : Int))) then ((idx a0 v16).bind fun x20 =>
 joinM (fun (v22 : Bool) (v23 : Bool) (v24 : Bool) =>
 joinM (fun (v49 : Bool) =>
 joinM (fun (v51 : Bool) =>
 bif v51 then (some false)
 else (L07_TyMore_L0 F a0 x11 K3 m v22 (IntKind.i64.wrap (v16 + 1)))) fun K15 =>
 bif v49 then (K15 true)
 else (joinM (fun (v52 : Bool) =>
 joinM (fun (v54 : Bool) =>
 K15 v54) fun K17 =>
 bif v52 then ((R07_Find F a0 x20.Name).bind fun x55 =>
 K17 (x55 == v16))
 else (K17 false)) fun K16 =>
 bif v24 then ((idx x11 v16).bind fun x53 =>
 K16 x53)
 else (K16 false))) fun K14 =>
 bif v23 then ((idx x11 v16).bind fun x50 =>
 K14 (!x50))
 else (K14 false)) fun K5 =>
 L07_TyMore_L1 F a0 x20 K5 F v15 false true 0)
 else (K3 v15)
def L07_TyMore (F : Nat) (a0 : (List api_Data)) (a1 : (List api_Data)) : Option Bool :=
 (L07_light F a0).bind fun x1 =>
 joinM (fun (v2 : Bool) =>
 bif v2 then ((L07_awake F).bind fun x5 =>
 some x5)
 else ((appM 56 ([] : List api_Data) a0).bind fun x7 =>
 (appM 56 x7 a1).bind fun x9 =>
 (ty_Full F a0).bind fun x11 =>
 (ty_Full F x9).bind fun x12 =>
 bif (((x11.length : Int) != (a0.length : Int)) || ((x12.length : Int) != (x9.length : Int))) then (some false)
 else (joinM (fun (v14 : Bool) =>
 L07_TyMore_L3 F a0 x11 x12 v14 F 0) fun K3 =>
 L07_TyMore_L0 F a0 x11 K3 F true 0))) fun K1 =>
 bif (!x1) then (K1 true)
 else ((L07_light F a1).bind fun x3 =>
 K1 (!x3))
end Go.Proofs.Ytappiofmkoelnaa.M
