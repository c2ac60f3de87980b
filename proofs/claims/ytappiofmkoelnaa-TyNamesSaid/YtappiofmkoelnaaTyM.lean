/-
  Functions, as Lean functions that may have no answer.
-/
import Derived.Test.YtappiofmkoelnaaTyT
namespace Go.Proofs.Ytappiofmkoelnaa.M
open Go.Proofs.YtappiofmkoelnaaW.Ah Go.Proofs.Ytappiofmkoelnaa
set_option linter.unusedVariables false
set_option linter.unusedSimpArgs false
set_option maxRecDepth 8000
def R04_LightType_L0 (F : Nat) (ρ14 : api_Type → Int → Option Int) (a0 : api_Type) : Nat → Int → Int → Option Int
 | 0, _, _ => none
 | m + 1, v2, v3 =>
 bif ((decide (v3 < (a0.Parts.length : Int))) && (decide (0 ≤ v2))) then ((idx a0.Parts v3).bind fun x7 =>
 (ρ14 x7 v2).bind fun x8 =>
 R04_LightType_L0 F ρ14 a0 m x8 (IntKind.i64.wrap (v3 + 1)))
 else (some v2)
def R04_LightType_B (F : Nat) (ρ14 : api_Type → Int → Option Int) (a0 : api_Type) (a1 : Int) : Option Int :=
 R04_LightType_L0 F ρ14 a0 F (IntKind.i64.wrap ((IntKind.i64.wrap (a1 - 1)) - (if 1048576 < (a0.Name.size : Int) then 1048576 else (a0.Name.size : Int)))) 0
def R04_LightType : Nat → api_Type → Int → Option Int
 | 0, _, _ => none
 | F + 1, a0, a1 => R04_LightType_B F (R04_LightType F) a0 a1

def L07_light_L1 (F : Nat) (a0 : (List api_Data)) (v3 : Int) (K4 : Int → Option Bool) : Nat → Int → Int → Option Bool
 | 0, _, _ => none
 | m + 1, v9, v10 =>
 (idx a0 v3).bind fun x13 =>
 bif ((decide (v10 < (x13.Cons.length : Int))) && (decide (0 ≤ v9))) then ((idx a0 v3).bind fun x15 =>
 (idx x15.Cons v10).bind fun x16 =>
 (R04_LightType F (api_Type.mk 0 x16.Name x16.Fields) v9).bind fun x17 =>
 L07_light_L1 F a0 v3 K4 m x17 (IntKind.i64.wrap (v10 + 1)))
 else (K4 v9)
def L07_light_L0 (F : Nat) (a0 : (List api_Data)) (K1 : Int → Option Bool) : Nat → Int → Int → Option Bool
 | 0, _, _ => none
 | m + 1, v2, v3 =>
 bif ((decide (v3 < (a0.length : Int))) && (decide (0 ≤ v2))) then ((idx a0 v3).bind fun x7 =>
 joinM (fun (v8 : Int) =>
 L07_light_L0 F a0 K1 m v8 (IntKind.i64.wrap (v3 + 1))) fun K4 =>
 L07_light_L1 F a0 v3 K4 F (IntKind.i64.wrap (v2 - (IntKind.i64.wrap (1 + (if 2000 < (x7.Name.size : Int) then 2000 else (x7.Name.size : Int)))))) 0)
 else (K1 v2)
def L07_light (F : Nat) (a0 : (List api_Data)) : Option Bool :=
 joinM (fun (v1 : Int) =>
 some ((decide (0 ≤ v1)) && (decide ((a0.length : Int) ≤ 60)))) fun K1 =>
 L07_light_L0 F a0 K1 F 2000 0
def L07_awake (F : Nat) : Option Bool := some true
def slices_IndexFunc_api_Data_api_Data_L0 (F : Nat) (a0 : (List api_Data)) (φ1 : api_Data → Option Bool) : Nat → Int → Option Int
 | 0, _ => none
 | m + 1, v1 =>
 bif (decide (v1 < (a0.length : Int))) then ((idx a0 v1).bind fun x4 =>
 (φ1 x4).bind fun x5 =>
 bif x5 then (some v1)
 else (slices_IndexFunc_api_Data_api_Data_L0 F a0 φ1 m (IntKind.i64.wrap (v1 + 1))))
 else (some (-1))
def slices_IndexFunc_api_Data_api_Data (F : Nat) (a0 : (List api_Data)) (φ1 : api_Data → Option Bool) : Option Int :=
 slices_IndexFunc_api_Data_api_Data_L0 F a0 φ1 F 0
def ty_Find_1 (F : Nat) (a0 : api_Data) (a1 : ByteArray) : Option Bool :=
 some (a0.Name.toList == a1.toList)
def ty_Find (F : Nat) (a0 : (List api_Data)) (a1 : ByteArray) : Option Int :=
 (slices_IndexFunc_api_Data_api_Data F a0 (fun y0 => ty_Find_1 F y0 a1)).bind fun x2 =>
 some x2
def slices_IndexFunc_api_Con_api_Con_L0 (F : Nat) (a0 : (List api_Con)) (φ1 : api_Con → Option Bool) : Nat → Int → Option Int
 | 0, _ => none
 | m + 1, v1 =>
 bif (decide (v1 < (a0.length : Int))) then ((idx a0 v1).bind fun x4 =>
 (φ1 x4).bind fun x5 =>
 bif x5 then (some v1)
 else (slices_IndexFunc_api_Con_api_Con_L0 F a0 φ1 m (IntKind.i64.wrap (v1 + 1))))
 else (some (-1))
def slices_IndexFunc_api_Con_api_Con (F : Nat) (a0 : (List api_Con)) (φ1 : api_Con → Option Bool) : Option Int :=
 slices_IndexFunc_api_Con_api_Con_L0 F a0 φ1 F 0
def ty_Con_1 (F : Nat) (a0 : api_Con) (a1 : ByteArray) : Option Bool :=
 some (a0.Name.toList == a1.toList)
def ty_Con_L0 (F : Nat) (a0 : (List api_Data)) (a1 : ByteArray) : Nat → Int → Option (Int × Int × Bool)
 | 0, _ => none
 | m + 1, v2 =>
 bif (decide (v2 < (a0.length : Int))) then ((idx a0 v2).bind fun x5 =>
 (slices_IndexFunc_api_Con_api_Con F x5.Cons (fun y0 => ty_Con_1 F y0 a1)).bind fun x7 =>
 bif (decide (0 ≤ x7)) then (some (v2, x7, true))
 else (ty_Con_L0 F a0 a1 m (IntKind.i64.wrap (v2 + 1))))
 else (some (0, 0, false))
def ty_Con (F : Nat) (a0 : (List api_Data)) (a1 : ByteArray) : Option (Int × Int × Bool) :=
 ty_Con_L0 F a0 a1 F 0
def L07_TyNames_L1 (F : Nat) (a1 : ByteArray) (x5 : (Int × Int × Bool)) (v17 : Int) (x23 : api_Data) (K13 : Unit → Option Bool) : Nat → Int → Option Bool
 | 0, _ => none
 | m + 1, v24 =>
 bif (decide (v24 < (x23.Cons.length : Int))) then ((idx x23.Cons v24).bind fun x27 =>
 bif ((x27.Name.toList == a1.toList) && (((!x5.2.2) || (decide (v17 < x5.1))) || ((v17 == x5.1) && (decide (v24 < x5.2.1))))) then (some false)
 else (L07_TyNames_L1 F a1 x5 v17 x23 K13 m (IntKind.i64.wrap (v24 + 1))))
 else (K13 ())
def L07_TyNames_L0 (F : Nat) (a0 : (List api_Data)) (a1 : ByteArray) (x4 : Int) (x5 : (Int × Int × Bool)) : Nat → Int → Option Bool
 | 0, _ => none
 | m + 1, v17 =>
 bif (decide (v17 < (a0.length : Int))) then (joinM (fun (v20 : Bool) =>
 bif v20 then (some false)
 else ((idx a0 v17).bind fun x23 =>
 joinM (fun (_ : Unit) =>
 L07_TyNames_L0 F a0 a1 x4 x5 m (IntKind.i64.wrap (v17 + 1))) fun K13 =>
 L07_TyNames_L1 F a1 x5 v17 x23 K13 F 0)) fun K12 =>
 bif ((decide (x4 < 0)) || (decide (v17 < x4))) then ((idx a0 v17).bind fun x21 =>
 K12 (x21.Name.toList == a1.toList))
 else (K12 false))
 else ((L07_awake F).bind fun x30 =>
 some x30)
def L07_TyNames (F : Nat) (a0 : (List api_Data)) (a1 : ByteArray) : Option Bool :=
 (L07_light F a0).bind fun x1 =>
 bif ((!x1) || (decide (300 < (a1.size : Int)))) then ((L07_awake F).bind fun x3 =>
 some x3)
 else ((ty_Find F a0 a1).bind fun x4 =>
 (ty_Con F a0 a1).bind fun x5 =>
 joinM (fun (v6 : Bool) =>
 joinM (fun (v9 : Bool) =>
 bif v9 then (some false)
 else (L07_TyNames_L0 F a0 a1 x4 x5 F 0)) fun K4 =>
 bif v6 then (K4 true)
 else (joinM (fun (v10 : Bool) =>
 K4 v10) fun K5 =>
 bif x5.2.2 then (joinM (fun (v11 : Bool) =>
 joinM (fun (v13 : Bool) =>
 K5 v13) fun K9 =>
 bif v11 then (K9 true)
 else ((idx a0 x5.1).bind fun x14 =>
 (idx x14.Cons x5.2.1).bind fun x15 =>
 K9 (!(x15.Name.toList == a1.toList)))) fun K8 =>
 bif (((decide (x5.1 < 0)) || (decide ((a0.length : Int) ≤ x5.1))) || (decide (x5.2.1 < 0))) then (K8 true)
 else ((idx a0 x5.1).bind fun x12 =>
 K8 (decide ((x12.Cons.length : Int) ≤ x5.2.1))))
 else (K5 false))) fun K2 =>
 bif (decide ((a0.length : Int) ≤ x4)) then (K2 true)
 else (joinM (fun (v7 : Bool) =>
 K2 v7) fun K3 =>
 bif (decide (0 ≤ x4)) then ((idx a0 x4).bind fun x8 =>
 K3 (!(x8.Name.toList == a1.toList)))
 else (K3 false)))
end Go.Proofs.Ytappiofmkoelnaa.M
