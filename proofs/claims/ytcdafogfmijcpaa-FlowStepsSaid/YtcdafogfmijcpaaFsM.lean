/-
  Functions, as Lean functions that may have no answer.
-/
import Derived.Test.YtcdafogfmijcpaaFsT
import Derived.Test.YtcdafogfmijcpaaFsMA
namespace Go.Proofs.Ytcdafogfmijcpaa.M
open Go.Proofs.YtcdafogfmijcpaaW.Ah Go.Proofs.Ytcdafogfmijcpaa
set_option linter.unusedVariables false
set_option linter.unusedSimpArgs false
set_option maxRecDepth 8000
noncomputable section
def slices_IndexFunc_api_Func_api_Func_L0 (F : Nat) (a0 : (List api_Func)) (φ1 : api_Func → Option Bool) : Nat → Int → Option Int
 | 0, _ => none
 | m + 1, v1 =>
 bif (decide (v1 < (a0.length : Int))) then ((idx a0 v1).bind fun x4 =>
 (φ1 x4).bind fun x5 =>
 bif x5 then (some v1)
 else (slices_IndexFunc_api_Func_api_Func_L0 F a0 φ1 m (IntKind.i64.wrap (v1 + 1))))
 else (some (-1))
def slices_IndexFunc_api_Func_api_Func (F : Nat) (a0 : (List api_Func)) (φ1 : api_Func → Option Bool) : Option Int :=
 slices_IndexFunc_api_Func_api_Func_L0 F a0 φ1 F 0
def slices_ContainsFunc_api_Func_api_Func (F : Nat) (a0 : (List api_Func)) (φ1 : api_Func → Option Bool) : Option Bool :=
 (slices_IndexFunc_api_Func_api_Func F a0 φ1).bind fun x1 =>
 some (decide (0 ≤ x1))
def code_between (F : Nat) (a0 : Int) (a1 : Int) (a2 : Int) : Option Bool :=
 some ((decide (a1 ≤ a0)) && (decide (a0 ≤ a2)))
def slices_IndexFunc_api_Inst_api_Inst_L0 (F : Nat) (a0 : (List api_Inst)) (φ1 : api_Inst → Option Bool) : Nat → Int → Option Int
 | 0, _ => none
 | m + 1, v1 =>
 bif (decide (v1 < (a0.length : Int))) then ((idx a0 v1).bind fun x4 =>
 (φ1 x4).bind fun x5 =>
 bif x5 then (some v1)
 else (slices_IndexFunc_api_Inst_api_Inst_L0 F a0 φ1 m (IntKind.i64.wrap (v1 + 1))))
 else (some (-1))
def slices_IndexFunc_api_Inst_api_Inst (F : Nat) (a0 : (List api_Inst)) (φ1 : api_Inst → Option Bool) : Option Int :=
 slices_IndexFunc_api_Inst_api_Inst_L0 F a0 φ1 F 0
def slices_ContainsFunc_api_Inst_api_Inst (F : Nat) (a0 : (List api_Inst)) (φ1 : api_Inst → Option Bool) : Option Bool :=
 (slices_IndexFunc_api_Inst_api_Inst F a0 φ1).bind fun x1 =>
 some (decide (0 ≤ x1))
def inst_Fit (F : Nat) (a0 : api_Inst) : Option Bool := some (fitI a0)

def code_fitFunc_1 (F : Nat) (a0 : api_Inst) : Option Bool :=
 (inst_Fit F a0).bind fun x2 =>
 some (!x2)
def code_fitFunc (F : Nat) (a0 : api_Func) : Option Bool :=
 joinM (fun (v2 : Bool) =>
 joinM (fun (v4 : Bool) =>
 joinM (fun (v6 : Bool) =>
 bif v6 then (some false)
 else ((slices_ContainsFunc_api_Inst_api_Inst F a0.Code (fun y0 => code_fitFunc_1 F y0)).bind fun x9 =>
 some (!x9))) fun K3 =>
 bif v4 then (K3 true)
 else ((code_between F (a0.Code.length : Int) 1 1048576).bind fun x7 =>
 K3 (!x7))) fun K2 =>
 bif v2 then (K2 true)
 else ((code_between F a0.Slots 0 8192).bind fun x5 =>
 K2 (!x5))) fun K1 =>
 bif (decide (64 < (a0.Name.size : Int))) then (K1 true)
 else ((code_between F a0.Params 0 6).bind fun x3 =>
 K1 (!x3))
def code_Fit_1 (F : Nat) (a0 : api_Func) : Option Bool :=
 (code_fitFunc F a0).bind fun x2 =>
 some (!x2)
def slices_IndexFunc_byte_byte_L0 (F : Nat) (a0 : (List (List Int))) (φ1 : (List Int) → Option Bool) : Nat → Int → Option Int
 | 0, _ => none
 | m + 1, v1 =>
 bif (decide (v1 < (a0.length : Int))) then ((idx a0 v1).bind fun x4 =>
 (φ1 x4).bind fun x5 =>
 bif x5 then (some v1)
 else (slices_IndexFunc_byte_byte_L0 F a0 φ1 m (IntKind.i64.wrap (v1 + 1))))
 else (some (-1))
def slices_IndexFunc_byte_byte (F : Nat) (a0 : (List (List Int))) (φ1 : (List Int) → Option Bool) : Option Int :=
 slices_IndexFunc_byte_byte_L0 F a0 φ1 F 0
def slices_ContainsFunc_byte_byte (F : Nat) (a0 : (List (List Int))) (φ1 : (List Int) → Option Bool) : Option Bool :=
 (slices_IndexFunc_byte_byte F a0 φ1).bind fun x1 =>
 some (decide (0 ≤ x1))
def code_Fit_2 (F : Nat) (a0 : (List Int)) : Option Bool :=
 some (decide (64 < (a0.length : Int)))
def slices_IndexFunc_int_int_L0 (F : Nat) (a0 : (List (List Int))) (φ1 : (List Int) → Option Bool) : Nat → Int → Option Int
 | 0, _ => none
 | m + 1, v1 =>
 bif (decide (v1 < (a0.length : Int))) then ((idx a0 v1).bind fun x4 =>
 (φ1 x4).bind fun x5 =>
 bif x5 then (some v1)
 else (slices_IndexFunc_int_int_L0 F a0 φ1 m (IntKind.i64.wrap (v1 + 1))))
 else (some (-1))
def slices_IndexFunc_int_int (F : Nat) (a0 : (List (List Int))) (φ1 : (List Int) → Option Bool) : Option Int :=
 slices_IndexFunc_int_int_L0 F a0 φ1 F 0
def slices_ContainsFunc_int_int (F : Nat) (a0 : (List (List Int))) (φ1 : (List Int) → Option Bool) : Option Bool :=
 (slices_IndexFunc_int_int F a0 φ1).bind fun x1 =>
 some (decide (0 ≤ x1))
def slices_IndexFunc_int_int_57_L0 (F : Nat) (a0 : (List Int)) (φ1 : Int → Option Bool) : Nat → Int → Option Int
 | 0, _ => none
 | m + 1, v1 =>
 bif (decide (v1 < (a0.length : Int))) then ((idx a0 v1).bind fun x4 =>
 (φ1 x4).bind fun x5 =>
 bif x5 then (some v1)
 else (slices_IndexFunc_int_int_57_L0 F a0 φ1 m (IntKind.i64.wrap (v1 + 1))))
 else (some (-1))
def slices_IndexFunc_int_int_57 (F : Nat) (a0 : (List Int)) (φ1 : Int → Option Bool) : Option Int :=
 slices_IndexFunc_int_int_57_L0 F a0 φ1 F 0
def slices_ContainsFunc_int_int_45 (F : Nat) (a0 : (List Int)) (φ1 : Int → Option Bool) : Option Bool :=
 (slices_IndexFunc_int_int_57 F a0 φ1).bind fun x1 =>
 some (decide (0 ≤ x1))
def code_fitTable_1 (F : Nat) (a0 : Int) : Option Bool :=
 (code_between F a0 (-1) 1048575).bind fun x1 =>
 some (!x1)
def code_fitTable (F : Nat) (a0 : (List Int)) : Option Bool :=
 (code_between F (a0.length : Int) 1 16).bind fun x1 =>
 joinM (fun (v2 : Bool) =>
 some v2) fun K1 =>
 bif x1 then ((slices_ContainsFunc_int_int_45 F a0 (fun y0 => code_fitTable_1 F y0)).bind fun x3 =>
 K1 (!x3))
 else (K1 false)
def code_Fit_3 (F : Nat) (a0 : (List Int)) : Option Bool :=
 (code_fitTable F a0).bind fun x1 =>
 some (!x1)
def code_Fit (F : Nat) (a0 : api_Code) : Option Bool :=
 bif (((decide (80 < (a0.Funs.length : Int))) || (decide (4096 < (a0.Texts.length : Int)))) || (decide (65536 < (a0.Tables.length : Int)))) then (some false)
 else ((slices_ContainsFunc_api_Func_api_Func F a0.Funs (fun y0 => code_Fit_1 F y0)).bind fun x3 =>
 joinM (fun (v4 : Bool) =>
 joinM (fun (v6 : Bool) =>
 some v6) fun K4 =>
 bif v4 then ((slices_ContainsFunc_int_int F a0.Tables (fun y0 => code_Fit_3 F y0)).bind fun x7 =>
 K4 (!x7))
 else (K4 false)) fun K3 =>
 bif (!x3) then ((slices_ContainsFunc_byte_byte F a0.Texts (fun y0 => code_Fit_2 F y0)).bind fun x5 =>
 K3 (!x5))
 else (K3 false))
def R19_number (F : Nat) (a0 : Int) : Option Bool :=
 some ((decide ((-4611686018427387904) ≤ a0)) && (decide (a0 < 4611686018427387904)))
def R19_below (F : Nat) (a0 : Int) (a1 : Int) : Option Bool :=
 some ((decide (0 ≤ a0)) && (decide (a0 < a1)))
def R19_Fit (F : Nat) (a0 : api_Inst) : Option Bool :=
 bif (a0.Op == 0) then (joinM (fun (v3 : Bool) =>
 some v3) fun K2 =>
 bif ((a0.B == 0) && (a0.C == 0)) then ((R19_number F a0.A).bind fun x4 =>
 K2 x4)
 else (K2 false))
 else (bif (a0.Op == 1) then (joinM (fun (v6 : Bool) =>
 some v6) fun K3 =>
 bif ((a0.B == 0) && (a0.C == 0)) then ((R19_below F a0.A 4096).bind fun x7 =>
 K3 x7)
 else (K3 false))
 else (joinM (fun (v8 : Bool) =>
 bif v8 then (joinM (fun (v11 : Bool) =>
 some v11) fun K5 =>
 bif ((a0.B == 0) && (a0.C == 0)) then ((R19_below F a0.A 8192).bind fun x12 =>
 K5 x12)
 else (K5 false))
 else (bif (a0.Op == 3) then (joinM (fun (v14 : Bool) =>
 some ((v14 && (decide (1 ≤ a0.B))) && (decide (a0.B ≤ 6)))) fun K6 =>
 bif (a0.C == 0) then ((R19_below F a0.A 16).bind fun x15 =>
 K6 x15)
 else (K6 false))
 else (bif (a0.Op == 4) then (joinM (fun (v17 : Bool) =>
 joinM (fun (v19 : Bool) =>
 some v19) fun K10 =>
 bif v17 then ((R19_below F a0.B 6).bind fun x20 =>
 K10 x20)
 else (K10 false)) fun K9 =>
 bif (a0.C == 0) then ((R19_below F a0.A 8192).bind fun x18 =>
 K9 x18)
 else (K9 false))
 else (bif (a0.Op == 5) then (joinM (fun (v22 : Bool) =>
 some v22) fun K11 =>
 bif ((a0.B == 0) && (a0.C == 0)) then ((R19_below F a0.A 12).bind fun x23 =>
 K11 x23)
 else (K11 false))
 else (bif (a0.Op == 6) then (joinM (fun (v25 : Bool) =>
 some ((v25 && (decide (1 ≤ a0.B))) && (decide (a0.B ≤ 6)))) fun K12 =>
 bif (a0.C == 0) then ((R19_below F a0.A 80).bind fun x26 =>
 K12 x26)
 else (K12 false))
 else (joinM (fun (v27 : Bool) =>
 bif v27 then (some (((a0.B == 0) && (a0.C == 0)) && (a0.A == 0)))
 else (bif (a0.Op == 8) then (some ((((a0.B == 0) && (a0.C == 0)) && (decide (1 ≤ a0.A))) && (decide (a0.A ≤ 8192))))
 else (joinM (fun (v31 : Bool) =>
 bif v31 then (joinM (fun (v34 : Bool) =>
 some v34) fun K20 =>
 bif ((a0.B == 0) && (a0.C == 0)) then ((R19_below F a0.A 1048576).bind fun x35 =>
 K20 x35)
 else (K20 false))
 else (bif (a0.Op == 11) then (joinM (fun (v37 : Bool) =>
 joinM (fun (v39 : Bool) =>
 some v39) fun K22 =>
 bif v37 then ((R19_below F a0.B 65536).bind fun x40 =>
 K22 x40)
 else (K22 false)) fun K21 =>
 bif (a0.C == 0) then ((R19_below F a0.A 8192).bind fun x38 =>
 K21 x38)
 else (K21 false))
 else (bif (a0.Op == 12) then ((R19_below F a0.A 8192).bind fun x42 =>
 joinM (fun (v43 : Bool) =>
 joinM (fun (v45 : Bool) =>
 some v45) fun K24 =>
 bif v43 then ((R19_below F a0.C 1048576).bind fun x46 =>
 K24 x46)
 else (K24 false)) fun K23 =>
 bif x42 then ((R19_number F a0.B).bind fun x44 =>
 K23 x44)
 else (K23 false))
 else (bif (a0.Op == 13) then (joinM (fun (v48 : Bool) =>
 joinM (fun (v50 : Bool) =>
 some v50) fun K26 =>
 bif v48 then ((R19_below F a0.B 1048576).bind fun x51 =>
 K26 x51)
 else (K26 false)) fun K25 =>
 bif (a0.C == 0) then ((R19_below F a0.A 8192).bind fun x49 =>
 K25 x49)
 else (K25 false))
 else (some false))))) fun K19 =>
 bif (a0.Op == 9) then (K19 (a0.Op == 9))
 else (K19 (a0.Op == 10))))) fun K15 =>
 bif (a0.Op == 7) then (K15 (a0.Op == 7))
 else (K15 (a0.Op == 15)))))))) fun K4 =>
 bif (a0.Op == 2) then (K4 (a0.Op == 2))
 else (K4 (a0.Op == 14))))
def R20_Fit_L4 (F : Nat) (a0 : api_Code) (v20 : Int) (K17 : Unit → Option Bool) : Nat → Int → Option Bool
 | 0, _ => none
 | m + 1, v27 =>
 (idx a0.Tables v20).bind fun x29 =>
 bif (decide (v27 < (x29.length : Int))) then ((idx a0.Tables v20).bind fun x31 =>
 (idx x31 v27).bind fun x32 =>
 joinM (fun (v33 : Bool) =>
 bif v33 then (some false)
 else (R20_Fit_L4 F a0 v20 K17 m (IntKind.i64.wrap (v27 + 1)))) fun K19 =>
 bif (decide (x32 < (-1))) then (K19 true)
 else ((idx a0.Tables v20).bind fun x34 =>
 (idx x34 v27).bind fun x35 =>
 K19 (decide (1048576 ≤ x35))))
 else (K17 ())
def R20_Fit_L3 (F : Nat) (a0 : api_Code) : Nat → Int → Option Bool
 | 0, _ => none
 | m + 1, v20 =>
 bif (decide (v20 < (a0.Tables.length : Int))) then ((idx a0.Tables v20).bind fun x23 =>
 joinM (fun (v24 : Bool) =>
 bif v24 then (some false)
 else (joinM (fun (_ : Unit) =>
 R20_Fit_L3 F a0 m (IntKind.i64.wrap (v20 + 1))) fun K17 =>
 R20_Fit_L4 F a0 v20 K17 F 0)) fun K16 =>
 bif (decide ((x23.length : Int) < 1)) then (K16 true)
 else ((idx a0.Tables v20).bind fun x25 =>
 K16 (decide (16 < (x25.length : Int)))))
 else (some true)
def R20_Fit_L2 (F : Nat) (a0 : api_Code) (K13 : Unit → Option Bool) : Nat → Int → Option Bool
 | 0, _ => none
 | m + 1, v15 =>
 bif (decide (v15 < (a0.Texts.length : Int))) then ((idx a0.Texts v15).bind fun x18 =>
 bif (decide (64 < (x18.length : Int))) then (some false)
 else (R20_Fit_L2 F a0 K13 m (IntKind.i64.wrap (v15 + 1))))
 else (K13 ())
def R20_Fit_L1 (F : Nat) (x6 : api_Func) (K11 : Unit → Option Bool) : Nat → Int → Option Bool
 | 0, _ => none
 | m + 1, v9 =>
 bif (decide (v9 < (x6.Code.length : Int))) then ((idx x6.Code v9).bind fun x12 =>
 (R19_Fit F x12).bind fun x13 =>
 bif (!x13) then (some false)
 else (R20_Fit_L1 F x6 K11 m (IntKind.i64.wrap (v9 + 1))))
 else (K11 ())
def R20_Fit_L0 (F : Nat) (a0 : api_Code) (K3 : Unit → Option Bool) : Nat → Int → Option Bool
 | 0, _ => none
 | m + 1, v3 =>
 bif (decide (v3 < (a0.Funs.length : Int))) then ((idx a0.Funs v3).bind fun x6 =>
 bif (((((((decide (64 < (x6.Name.size : Int))) || (decide (x6.Params < 0))) || (decide (6 < x6.Params))) || (decide (x6.Slots < 0))) || (decide (8192 < x6.Slots))) || (decide ((x6.Code.length : Int) < 1))) || (decide (1048576 < (x6.Code.length : Int)))) then (some false)
 else (joinM (fun (_ : Unit) =>
 R20_Fit_L0 F a0 K3 m (IntKind.i64.wrap (v3 + 1))) fun K11 =>
 R20_Fit_L1 F x6 K11 F 0))
 else (K3 ())
def R20_Fit (F : Nat) (a0 : api_Code) : Option Bool :=
 bif (((decide (80 < (a0.Funs.length : Int))) || (decide (4096 < (a0.Texts.length : Int)))) || (decide (65536 < (a0.Tables.length : Int)))) then (some false)
 else (joinM (fun (_ : Unit) =>
 joinM (fun (_ : Unit) =>
 R20_Fit_L3 F a0 F 0) fun K13 =>
 R20_Fit_L2 F a0 K13 F 0) fun K3 =>
 R20_Fit_L0 F a0 K3 F 0)
def R09_Bool (F : Nat) : Option api_Type :=
 some (api_Type.mk 2 (⟨#[98, 111, 111, 108]⟩ : ByteArray) [])
def R09_Ops (F : Nat) (a0 : Int) : Option ((List api_Type) × api_Type) :=
 joinM (fun (v4 : Bool) =>
 bif v4 then ((R09_Bool F).bind fun x9 =>
 some (([(api_Type.mk 0 ⟨#[]⟩ []), (api_Type.mk 0 ⟨#[]⟩ [])] : List api_Type), x9))
 else (bif (a0 == 8) then (some (([(api_Type.mk 1 ⟨#[]⟩ [])] : List api_Type), (api_Type.mk 0 ⟨#[]⟩ [])))
 else (bif (a0 == 9) then (some (([(api_Type.mk 1 ⟨#[]⟩ []), (api_Type.mk 0 ⟨#[]⟩ [])] : List api_Type), (api_Type.mk 0 ⟨#[]⟩ [])))
 else (bif (a0 == 10) then (some (([(api_Type.mk 1 ⟨#[]⟩ []), (api_Type.mk 1 ⟨#[]⟩ [])] : List api_Type), (api_Type.mk 1 ⟨#[]⟩ [])))
 else (bif (a0 == 11) then (some (([(api_Type.mk 1 ⟨#[]⟩ []), (api_Type.mk 0 ⟨#[]⟩ []), (api_Type.mk 0 ⟨#[]⟩ [])] : List api_Type), (api_Type.mk 1 ⟨#[]⟩ [])))
 else (some (([(api_Type.mk 0 ⟨#[]⟩ []), (api_Type.mk 0 ⟨#[]⟩ [])] : List api_Type), (api_Type.mk 0 ⟨#[]⟩ [])))))))) fun K1 =>
 bif (a0 == 5) then (K1 (a0 == 5))
 else (bif (a0 == 6) then (K1 (a0 == 6))
 else (K1 (a0 == 7)))
def R19_Takes (F : Nat) (a0 : api_Inst) : Option (Int × Int) :=
 (R19_Fit F a0).bind fun x2 =>
 bif (!x2) then (some (0, 0))
 else (joinM (fun (v4 : Bool) =>
 bif v4 then (some (0, 1))
 else (joinM (fun (v9 : Bool) =>
 bif v9 then (some (a0.B, 1))
 else (bif (a0.Op == 5) then ((R09_Ops F a0.A).bind fun x13 =>
 some ((x13.1.length : Int), 1))
 else (joinM (fun (v15 : Bool) =>
 bif v15 then (some (1, 0))
 else (bif (a0.Op == 8) then (some ((IntKind.i64.wrap (a0.A + 1)), 1))
 else (some (0, 0)))) fun K3 =>
 bif (a0.Op == 7) then (K3 (a0.Op == 7))
 else (bif (a0.Op == 10) then (K3 (a0.Op == 10))
 else (K3 (a0.Op == 14)))))) fun K2 =>
 bif (a0.Op == 3) then (K2 (a0.Op == 3))
 else (K2 (a0.Op == 6)))) fun K1 =>
 bif (a0.Op == 0) then (K1 (a0.Op == 0))
 else (bif (a0.Op == 1) then (K1 (a0.Op == 1))
 else (bif (a0.Op == 2) then (K1 (a0.Op == 2))
 else (K1 (a0.Op == 4)))))
def R19_Goes (F : Nat) (a0 : api_Inst) : Option ((List Int) × Bool) :=
 (R19_Fit F a0).bind fun x2 =>
 bif (!x2) then (some (([] : (List Int)), false))
 else (joinM (fun (v4 : Bool) =>
 bif v4 then (some (([] : (List Int)), false))
 else (bif (a0.Op == 9) then (some (([a0.A] : List Int), false))
 else (bif (a0.Op == 10) then (some (([a0.A] : List Int), true))
 else (bif (a0.Op == 12) then (some (([a0.C] : List Int), true))
 else (bif (a0.Op == 13) then (some (([a0.B] : List Int), true))
 else (some (([] : (List Int)), true))))))) fun K1 =>
 bif (a0.Op == 7) then (K1 (a0.Op == 7))
 else (bif (a0.Op == 15) then (K1 (a0.Op == 15))
 else (K1 (a0.Op == 11))))
def R20_Light_L2 (F : Nat) (a0 : api_Code) (a1 : Int) : Nat → Int → Int → Option Bool
 | 0, _, _ => none
 | m + 1, v16, v17 =>
 bif ((decide (v17 < (a0.Tables.length : Int))) && (decide (v16 ≤ a1))) then ((idx a0.Tables v17).bind fun x21 =>
 R20_Light_L2 F a0 a1 m (IntKind.i64.wrap ((IntKind.i64.wrap (v16 + 1)) + (x21.length : Int))) (IntKind.i64.wrap (v17 + 1)))
 else (some (decide (v16 ≤ a1)))
def R20_Light_L1 (F : Nat) (a0 : api_Code) (a1 : Int) (K4 : Int → Option Bool) : Nat → Int → Int → Option Bool
 | 0, _, _ => none
 | m + 1, v10, v11 =>
 bif ((decide (v11 < (a0.Texts.length : Int))) && (decide (v10 ≤ a1))) then ((idx a0.Texts v11).bind fun x15 =>
 R20_Light_L1 F a0 a1 K4 m (IntKind.i64.wrap ((IntKind.i64.wrap (v10 + 1)) + (x15.length : Int))) (IntKind.i64.wrap (v11 + 1)))
 else (K4 v10)
def R20_Light_L0 (F : Nat) (a0 : api_Code) (a1 : Int) (K1 : Int → Option Bool) : Nat → Int → Int → Option Bool
 | 0, _, _ => none
 | m + 1, v3, v4 =>
 bif ((decide (v4 < (a0.Funs.length : Int))) && (decide (v3 ≤ a1))) then ((idx a0.Funs v4).bind fun x8 =>
 R20_Light_L0 F a0 a1 K1 m (IntKind.i64.wrap ((IntKind.i64.wrap ((IntKind.i64.wrap (v3 + 1)) + (x8.Code.length : Int))) + (x8.Name.size : Int))) (IntKind.i64.wrap (v4 + 1)))
 else (K1 v3)
def R20_Light (F : Nat) (a0 : api_Code) (a1 : Int) : Option Bool :=
 joinM (fun (v2 : Int) =>
 joinM (fun (v9 : Int) =>
 R20_Light_L2 F a0 a1 F v9 0) fun K4 =>
 R20_Light_L1 F a0 a1 K4 F v2 0) fun K1 =>
 R20_Light_L0 F a0 a1 K1 F 0 0
noncomputable def flow_Check (F : Nat) (a0 : api_Code) : Option (List (List (List Bool)) × Int) := flowP a0

def flow_Height_L0 (F : Nat) (a0 : (List (List Bool))) : Nat → Int → Int → Option Int
 | 0, _, _ => none
 | m + 1, v1, v2 =>
 bif (decide (v2 < (a0.length : Int))) then ((idx a0 v2).bind fun x6 =>
 flow_Height_L0 F a0 m (if v1 < (x6.length : Int) then (x6.length : Int) else v1) (IntKind.i64.wrap (v2 + 1)))
 else (some v1)
def flow_Height (F : Nat) (a0 : (List (List Bool))) : Option Int :=
 flow_Height_L0 F a0 F 0 0
def L21_awake (F : Nat) : Option Bool :=
 (flow_Check F (api_Code.mk ([(api_Func.mk ⟨#[]⟩ 1 2 ([(api_Inst.mk 2 0 0 0), (api_Inst.mk 7 0 0 0)] : List api_Inst))] : List api_Func) [] [])).bind fun x4 =>
 (flow_Check F (api_Code.mk ([(api_Func.mk ⟨#[]⟩ 0 2 ([(api_Inst.mk 7 0 0 0)] : List api_Inst))] : List api_Func) [] [])).bind fun x7 =>
 joinM (fun (v8 : Bool) =>
 joinM (fun (v10 : Bool) =>
 joinM (fun (v13 : Bool) =>
 joinM (fun (v16 : Bool) =>
 some (v16 && (x7.2 == 24))) fun K5 =>
 bif v13 then ((idx x4.1 0).bind fun x17 =>
 (flow_Height F x17).bind fun x18 =>
 K5 (x18 == 2))
 else (K5 false)) fun K4 =>
 bif v10 then ((idx x4.1 0).bind fun x14 =>
 (idx x14 1).bind fun x15 =>
 K4 ((x15.length : Int) == 2))
 else (K4 false)) fun K3 =>
 bif v8 then ((idx x4.1 0).bind fun x11 =>
 (idx x11 0).bind fun x12 =>
 K3 ((x12.length : Int) == 1))
 else (K3 false)) fun K2 =>
 bif ((x4.2 == 0) && ((x4.1.length : Int) == 1)) then ((idx x4.1 0).bind fun x9 =>
 K2 ((x9.length : Int) == 2))
 else (K2 false)
def L21_leads_L0 (F : Nat) (a0 : (List Bool)) (a1 : (List Bool)) (a2 : Int) (a4 : api_Inst) (K2 : Unit → Option Bool) : Nat → Int → Option Bool
 | 0, _ => none
 | m + 1, v3 =>
 bif (decide (v3 < (IntKind.i64.wrap ((a0.length : Int) - a2)))) then ((idx a0 v3).bind fun x6 =>
 joinM (fun (v7 : Bool) =>
 bif (v7 && (!((a4.Op == 14) && (a4.A == v3)))) then (some false)
 else (L21_leads_L0 F a0 a1 a2 a4 K2 m (IntKind.i64.wrap (v3 + 1)))) fun K4 =>
 bif x6 then ((idx a1 v3).bind fun x8 =>
 K4 (!x8))
 else (K4 false))
 else (K2 ())
def L21_leads (F : Nat) (a0 : (List Bool)) (a1 : (List Bool)) (a2 : Int) (a3 : Int) (a4 : api_Inst) : Option Bool :=
 bif ((decide ((IntKind.i64.wrap ((a0.length : Int) - a2)) < 0)) || ((a1.length : Int) != (IntKind.i64.wrap ((IntKind.i64.wrap ((a0.length : Int) - a2)) + a3)))) then (some false)
 else (joinM (fun (_ : Unit) =>
 joinM (fun (v10 : Bool) =>
 joinM (fun (v12 : Bool) =>
 some v12) fun K10 =>
 bif v10 then (joinM (fun (v13 : Bool) =>
 joinM (fun (v15 : Bool) =>
 K10 v15) fun K12 =>
 bif v13 then (K12 true)
 else ((idx a1 (IntKind.i64.wrap ((a0.length : Int) - a2))).bind fun x16 =>
 K12 x16)) fun K11 =>
 bif (a4.Op != 2) then (K11 true)
 else ((idx a0 a4.A).bind fun x14 =>
 K11 (!x14)))
 else (K10 false)) fun K9 =>
 bif (((a4.Op != 3) && (a4.Op != 1)) && (a4.Op != 6)) then (K9 true)
 else ((idx a1 (IntKind.i64.wrap ((a0.length : Int) - a2))).bind fun x11 =>
 K9 x11)) fun K2 =>
 L21_leads_L0 F a0 a1 a2 a4 K2 F 0)
def L21_FlowSteps_L2 (F : Nat) (x5 : ((List (List (List Bool))) × Int)) (v12 : Int) (x15 : api_Func) (x28 : api_Inst) (x31 : (List Bool)) (x33 : (Int × Int)) (v38 : (List Int)) (K12 : Unit → Option Bool) : Nat → Int → Option Bool
 | 0, _ => none
 | m + 1, v46 =>
 bif (decide (v46 < (v38.length : Int))) then ((idx v38 v46).bind fun x49 =>
 joinM (fun (v50 : Bool) =>
 bif v50 then (some false)
 else (L21_FlowSteps_L2 F x5 v12 x15 x28 x31 x33 v38 K12 m (IntKind.i64.wrap (v46 + 1)))) fun K14 =>
 bif (decide (0 ≤ x49)) then (joinM (fun (v51 : Bool) =>
 K14 v51) fun K15 =>
 bif (decide ((x15.Code.length : Int) ≤ x49)) then (K15 true)
 else ((idx x5.1 v12).bind fun x52 =>
 (idx x52 x49).bind fun x53 =>
 (L21_leads F x31 x53 x33.1 x33.2 x28).bind fun x54 =>
 K15 (!x54)))
 else (K14 false))
 else (K12 ())
def L21_FlowSteps_L1 (F : Nat) (a0 : api_Code) (x5 : ((List (List (List Bool))) × Int)) (v12 : Int) (x15 : api_Func) (K6 : Unit → Option Bool) : Nat → Int → Option Bool
 | 0, _ => none
 | m + 1, v25 =>
 bif (decide (v25 < (x15.Code.length : Int))) then ((idx x15.Code v25).bind fun x28 =>
 (idx x5.1 v12).bind fun x30 =>
 (idx x30 v25).bind fun x31 =>
 bif ((decide (0 < v25)) && ((x31.length : Int) == 0)) then (L21_FlowSteps_L1 F a0 x5 v12 x15 K6 m (IntKind.i64.wrap (v25 + 1)))
 else ((R19_Takes F x28).bind fun x33 =>
 (R19_Goes F x28).bind fun x34 =>
 joinM (fun (v35 : (List Int)) =>
 joinM (fun (v38 : (List Int)) =>
 joinM (fun (_ : Unit) =>
 L21_FlowSteps_L1 F a0 x5 v12 x15 K6 m (IntKind.i64.wrap (v25 + 1))) fun K12 =>
 L21_FlowSteps_L2 F x5 v12 x15 x28 x31 x33 v38 K12 F 0) fun K11 =>
 bif x34.2 then ((appM 8 ([] : List Int) v35).bind fun x41 =>
 (appM 8 x41 ([(IntKind.i64.wrap (v25 + 1))] : List Int)).bind fun x44 =>
 K11 x44)
 else (K11 v35)) fun K10 =>
 bif ((x28.Op == 11) && (decide (x28.B < (a0.Tables.length : Int)))) then ((idx a0.Tables x28.B).bind fun x37 =>
 K10 x37)
 else (K10 x34.1)))
 else (K6 ())
def L21_FlowSteps_L0 (F : Nat) (a0 : api_Code) (x5 : ((List (List (List Bool))) × Int)) : Nat → Int → Option Bool
 | 0, _ => none
 | m + 1, v12 =>
 bif (decide (v12 < (a0.Funs.length : Int))) then ((idx a0.Funs v12).bind fun x15 =>
 (idx x5.1 v12).bind fun x17 =>
 joinM (fun (v18 : Bool) =>
 joinM (fun (v21 : Bool) =>
 bif v21 then (some false)
 else (joinM (fun (_ : Unit) =>
 L21_FlowSteps_L0 F a0 x5 m (IntKind.i64.wrap (v12 + 1))) fun K6 =>
 L21_FlowSteps_L1 F a0 x5 v12 x15 K6 F 0)) fun K5 =>
 bif v18 then (K5 true)
 else ((idx x5.1 v12).bind fun x22 =>
 (flow_Height F x22).bind fun x23 =>
 K5 (decide (x15.Slots < x23)))) fun K4 =>
 bif ((x17.length : Int) != (x15.Code.length : Int)) then (K4 true)
 else ((idx x5.1 v12).bind fun x19 =>
 (idx x19 0).bind fun x20 =>
 K4 ((x20.length : Int) != x15.Params)))
 else ((L21_awake F).bind fun x56 =>
 some x56)
def L21_FlowSteps (F : Nat) (a0 : api_Code) : Option Bool :=
 (R20_Light F a0 2000).bind fun x2 =>
 bif (!x2) then ((L21_awake F).bind fun x4 =>
 some x4)
 else ((flow_Check F a0).bind fun x5 =>
 bif (x5.2 != 0) then (joinM (fun (v7 : Bool) =>
 some v7) fun K1 =>
 bif ((x5.1.length : Int) == 0) then ((L21_awake F).bind fun x8 =>
 K1 x8)
 else (K1 false))
 else (joinM (fun (v9 : Bool) =>
 bif v9 then (some false)
 else (L21_FlowSteps_L0 F a0 x5 F 0)) fun K2 =>
 bif ((x5.1.length : Int) != (a0.Funs.length : Int)) then (K2 true)
 else ((R20_Fit F a0).bind fun x10 =>
 K2 (!x10))))
end
end Go.Proofs.Ytcdafogfmijcpaa.M
