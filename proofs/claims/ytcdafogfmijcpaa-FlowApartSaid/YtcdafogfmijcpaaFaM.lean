/-
  Functions, as Lean functions that may have no answer.
-/
import Derived.Test.YtcdafogfmijcpaaFaT
import Derived.Test.YtcdafogfmijcpaaFaMA
namespace Go.Proofs.Ytcdafogfmijcpaa.M
open Go.Proofs.YtcdafogfmijcpaaW.Ah Go.Proofs.Ytcdafogfmijcpaa
set_option linter.unusedVariables false
set_option linter.unusedSimpArgs false
set_option maxRecDepth 8000
noncomputable section
def slices_IndexFunc_api_Func_api_Func_L0 (F : Nat) (a0 : (List api_Func)) (φ1 : api_Func → Option Bool) : Nat → Int → Option Int
 | 0, _ => none
 | m + 1, v1 =>
 bif (decide (v1 < (a0.length : Int))) then ((idx a0 v1).bind fun x4 =>
 (φ1 x4).bind fun x5 =>
 bif x5 then (some v1)
 else (slices_IndexFunc_api_Func_api_Func_L0 F a0 φ1 m (IntKind.i64.wrap (v1 + 1))))
 else (some (-1))
def slices_IndexFunc_api_Func_api_Func (F : Nat) (a0 : (List api_Func)) (φ1 : api_Func → Option Bool) : Option Int :=
 slices_IndexFunc_api_Func_api_Func_L0 F a0 φ1 F 0
def slices_ContainsFunc_api_Func_api_Func (F : Nat) (a0 : (List api_Func)) (φ1 : api_Func → Option Bool) : Option Bool :=
 (slices_IndexFunc_api_Func_api_Func F a0 φ1).bind fun x1 =>
 some (decide (0 ≤ x1))
def code_between (F : Nat) (a0 : Int) (a1 : Int) (a2 : Int) : Option Bool :=
 some ((decide (a1 ≤ a0)) && (decide (a0 ≤ a2)))
def slices_IndexFunc_api_Inst_api_Inst_L0 (F : Nat) (a0 : (List api_Inst)) (φ1 : api_Inst → Option Bool) : Nat → Int → Option Int
 | 0, _ => none
 | m + 1, v1 =>
 bif (decide (v1 < (a0.length : Int))) then ((idx a0 v1).bind fun x4 =>
 (φ1 x4).bind fun x5 =>
 bif x5 then (some v1)
 else (slices_IndexFunc_api_Inst_api_Inst_L0 F a0 φ1 m (IntKind.i64.wrap (v1 + 1))))
 else (some (-1))
def slices_IndexFunc_api_Inst_api_Inst (F : Nat) (a0 : (List api_Inst)) (φ1 : api_Inst → Option Bool) : Option Int :=
 slices_IndexFunc_api_Inst_api_Inst_L0 F a0 φ1 F 0
def slices_ContainsFunc_api_Inst_api_Inst (F : Nat) (a0 : (List api_Inst)) (φ1 : api_Inst → Option Bool) : Option Bool :=
 (slices_IndexFunc_api_Inst_api_Inst F a0 φ1).bind fun x1 =>
 some (decide (0 ≤ x1))
def inst_Fit (F : Nat) (a0 : api_Inst) : Option Bool := some (fitI a0)

def code_fitFunc_1 (F : Nat) (a0 : api_Inst) : Option Bool :=
 (inst_Fit F a0).bind fun x2 =>
 some (!x2)
def code_fitFunc (F : Nat) (a0 : api_Func) : Option Bool :=
 joinM (fun (v2 : Bool) =>
 joinM (fun (v4 : Bool) =>
 joinM (fun (v6 : Bool) =>
 bif v6 then (some false)
 else ((slices_ContainsFunc_api_Inst_api_Inst F a0.Code (fun y0 => code_fitFunc_1 F y0)).bind fun x9 =>
 some (!x9))) fun K3 =>
 bif v4 then (K3 true)
 else ((code_between F (a0.Code.length : Int) 1 1048576).bind fun x7 =>
 K3 (!x7))) fun K2 =>
 bif v2 then (K2 true)
 else ((code_between F a0.Slots 0 8192).bind fun x5 =>
 K2 (!x5))) fun K1 =>
 bif (decide (64 < (a0.Name.size : Int))) then (K1 true)
 else ((code_between F a0.Params 0 6).bind fun x3 =>
 K1 (!x3))
def code_Fit_1 (F : Nat) (a0 : api_Func) : Option Bool :=
 (code_fitFunc F a0).bind fun x2 =>
 some (!x2)
def slices_IndexFunc_byte_byte_L0 (F : Nat) (a0 : (List (List Int))) (φ1 : (List Int) → Option Bool) : Nat → Int → Option Int
 | 0, _ => none
 | m + 1, v1 =>
 bif (decide (v1 < (a0.length : Int))) then ((idx a0 v1).bind fun x4 =>
 (φ1 x4).bind fun x5 =>
 bif x5 then (some v1)
 else (slices_IndexFunc_byte_byte_L0 F a0 φ1 m (IntKind.i64.wrap (v1 + 1))))
 else (some (-1))
def slices_IndexFunc_byte_byte (F : Nat) (a0 : (List (List Int))) (φ1 : (List Int) → Option Bool) : Option Int :=
 slices_IndexFunc_byte_byte_L0 F a0 φ1 F 0
def slices_ContainsFunc_byte_byte (F : Nat) (a0 : (List (List Int))) (φ1 : (List Int) → Option Bool) : Option Bool :=
 (slices_IndexFunc_byte_byte F a0 φ1).bind fun x1 =>
 some (decide (0 ≤ x1))
def code_Fit_2 (F : Nat) (a0 : (List Int)) : Option Bool :=
 some (decide (64 < (a0.length : Int)))
def slices_IndexFunc_int_int_L0 (F : Nat) (a0 : (List (List Int))) (φ1 : (List Int) → Option Bool) : Nat → Int → Option Int
 | 0, _ => none
 | m + 1, v1 =>
 bif (decide (v1 < (a0.length : Int))) then ((idx a0 v1).bind fun x4 =>
 (φ1 x4).bind fun x5 =>
 bif x5 then (some v1)
 else (slices_IndexFunc_int_int_L0 F a0 φ1 m (IntKind.i64.wrap (v1 + 1))))
 else (some (-1))
def slices_IndexFunc_int_int (F : Nat) (a0 : (List (List Int))) (φ1 : (List Int) → Option Bool) : Option Int :=
 slices_IndexFunc_int_int_L0 F a0 φ1 F 0
def slices_ContainsFunc_int_int (F : Nat) (a0 : (List (List Int))) (φ1 : (List Int) → Option Bool) : Option Bool :=
 (slices_IndexFunc_int_int F a0 φ1).bind fun x1 =>
 some (decide (0 ≤ x1))
def slices_IndexFunc_int_int_57_L0 (F : Nat) (a0 : (List Int)) (φ1 : Int → Option Bool) : Nat → Int → Option Int
 | 0, _ => none
 | m + 1, v1 =>
 bif (decide (v1 < (a0.length : Int))) then ((idx a0 v1).bind fun x4 =>
 (φ1 x4).bind fun x5 =>
 bif x5 then (some v1)
 else (slices_IndexFunc_int_int_57_L0 F a0 φ1 m (IntKind.i64.wrap (v1 + 1))))
 else (some (-1))
def slices_IndexFunc_int_int_57 (F : Nat) (a0 : (List Int)) (φ1 : Int → Option Bool) : Option Int :=
 slices_IndexFunc_int_int_57_L0 F a0 φ1 F 0
def slices_ContainsFunc_int_int_45 (F : Nat) (a0 : (List Int)) (φ1 : Int → Option Bool) : Option Bool :=
 (slices_IndexFunc_int_int_57 F a0 φ1).bind fun x1 =>
 some (decide (0 ≤ x1))
def code_fitTable_1 (F : Nat) (a0 : Int) : Option Bool :=
 (code_between F a0 (-1) 1048575).bind fun x1 =>
 some (!x1)
def code_fitTable (F : Nat) (a0 : (List Int)) : Option Bool :=
 (code_between F (a0.length : Int) 1 16).bind fun x1 =>
 joinM (fun (v2 : Bool) =>
 some v2) fun K1 =>
 bif x1 then ((slices_ContainsFunc_int_int_45 F a0 (fun y0 => code_fitTable_1 F y0)).bind fun x3 =>
 K1 (!x3))
 else (K1 false)
def code_Fit_3 (F : Nat) (a0 : (List Int)) : Option Bool :=
 (code_fitTable F a0).bind fun x1 =>
 some (!x1)
def code_Fit (F : Nat) (a0 : api_Code) : Option Bool :=
 bif (((decide (80 < (a0.Funs.length : Int))) || (decide (4096 < (a0.Texts.length : Int)))) || (decide (65536 < (a0.Tables.length : Int)))) then (some false)
 else ((slices_ContainsFunc_api_Func_api_Func F a0.Funs (fun y0 => code_Fit_1 F y0)).bind fun x3 =>
 joinM (fun (v4 : Bool) =>
 joinM (fun (v6 : Bool) =>
 some v6) fun K4 =>
 bif v4 then ((slices_ContainsFunc_int_int F a0.Tables (fun y0 => code_Fit_3 F y0)).bind fun x7 =>
 K4 (!x7))
 else (K4 false)) fun K3 =>
 bif (!x3) then ((slices_ContainsFunc_byte_byte F a0.Texts (fun y0 => code_Fit_2 F y0)).bind fun x5 =>
 K3 (!x5))
 else (K3 false))
def R20_Light_L2 (F : Nat) (a0 : api_Code) (a1 : Int) : Nat → Int → Int → Option Bool
 | 0, _, _ => none
 | m + 1, v16, v17 =>
 bif ((decide (v17 < (a0.Tables.length : Int))) && (decide (v16 ≤ a1))) then ((idx a0.Tables v17).bind fun x21 =>
 R20_Light_L2 F a0 a1 m (IntKind.i64.wrap ((IntKind.i64.wrap (v16 + 1)) + (x21.length : Int))) (IntKind.i64.wrap (v17 + 1)))
 else (some (decide (v16 ≤ a1)))
def R20_Light_L1 (F : Nat) (a0 : api_Code) (a1 : Int) (K4 : Int → Option Bool) : Nat → Int → Int → Option Bool
 | 0, _, _ => none
 | m + 1, v10, v11 =>
 bif ((decide (v11 < (a0.Texts.length : Int))) && (decide (v10 ≤ a1))) then ((idx a0.Texts v11).bind fun x15 =>
 R20_Light_L1 F a0 a1 K4 m (IntKind.i64.wrap ((IntKind.i64.wrap (v10 + 1)) + (x15.length : Int))) (IntKind.i64.wrap (v11 + 1)))
 else (K4 v10)
def R20_Light_L0 (F : Nat) (a0 : api_Code) (a1 : Int) (K1 : Int → Option Bool) : Nat → Int → Int → Option Bool
 | 0, _, _ => none
 | m + 1, v3, v4 =>
 bif ((decide (v4 < (a0.Funs.length : Int))) && (decide (v3 ≤ a1))) then ((idx a0.Funs v4).bind fun x8 =>
 R20_Light_L0 F a0 a1 K1 m (IntKind.i64.wrap ((IntKind.i64.wrap ((IntKind.i64.wrap (v3 + 1)) + (x8.Code.length : Int))) + (x8.Name.size : Int))) (IntKind.i64.wrap (v4 + 1)))
 else (K1 v3)
def R20_Light (F : Nat) (a0 : api_Code) (a1 : Int) : Option Bool :=
 joinM (fun (v2 : Int) =>
 joinM (fun (v9 : Int) =>
 R20_Light_L2 F a0 a1 F v9 0) fun K4 =>
 R20_Light_L1 F a0 a1 K4 F v2 0) fun K1 =>
 R20_Light_L0 F a0 a1 K1 F 0 0
noncomputable def flow_Check (F : Nat) (a0 : api_Code) : Option (List (List (List Bool)) × Int) := flowP a0

def flow_Height_L0 (F : Nat) (a0 : (List (List Bool))) : Nat → Int → Int → Option Int
 | 0, _, _ => none
 | m + 1, v1, v2 =>
 bif (decide (v2 < (a0.length : Int))) then ((idx a0 v2).bind fun x6 =>
 flow_Height_L0 F a0 m (if v1 < (x6.length : Int) then (x6.length : Int) else v1) (IntKind.i64.wrap (v2 + 1)))
 else (some v1)
def flow_Height (F : Nat) (a0 : (List (List Bool))) : Option Int :=
 flow_Height_L0 F a0 F 0 0
def L21_awake (F : Nat) : Option Bool :=
 (flow_Check F (api_Code.mk ([(api_Func.mk ⟨#[]⟩ 1 2 ([(api_Inst.mk 2 0 0 0), (api_Inst.mk 7 0 0 0)] : List api_Inst))] : List api_Func) [] [])).bind fun x4 =>
 (flow_Check F (api_Code.mk ([(api_Func.mk ⟨#[]⟩ 0 2 ([(api_Inst.mk 7 0 0 0)] : List api_Inst))] : List api_Func) [] [])).bind fun x7 =>
 joinM (fun (v8 : Bool) =>
 joinM (fun (v10 : Bool) =>
 joinM (fun (v13 : Bool) =>
 joinM (fun (v16 : Bool) =>
 some (v16 && (x7.2 == 24))) fun K5 =>
 bif v13 then ((idx x4.1 0).bind fun x17 =>
 (flow_Height F x17).bind fun x18 =>
 K5 (x18 == 2))
 else (K5 false)) fun K4 =>
 bif v10 then ((idx x4.1 0).bind fun x14 =>
 (idx x14 1).bind fun x15 =>
 K4 ((x15.length : Int) == 2))
 else (K4 false)) fun K3 =>
 bif v8 then ((idx x4.1 0).bind fun x11 =>
 (idx x11 0).bind fun x12 =>
 K3 ((x12.length : Int) == 1))
 else (K3 false)) fun K2 =>
 bif ((x4.2 == 0) && ((x4.1.length : Int) == 1)) then ((idx x4.1 0).bind fun x9 =>
 K2 ((x9.length : Int) == 2))
 else (K2 false)
def R21_Bools_L0 (F : Nat) (a0 : (List Bool)) (a1 : (List Bool)) : Nat → Int → Option Bool
 | 0, _ => none
 | m + 1, v2 =>
 bif (decide (v2 < (a0.length : Int))) then ((idx a0 v2).bind fun x5 =>
 (idx a1 v2).bind fun x6 =>
 bif (!(x5 == x6)) then (some false)
 else (R21_Bools_L0 F a0 a1 m (IntKind.i64.wrap (v2 + 1))))
 else (some true)
def R21_Bools (F : Nat) (a0 : (List Bool)) (a1 : (List Bool)) : Option Bool :=
 bif ((a0.length : Int) != (a1.length : Int)) then (some false)
 else (R21_Bools_L0 F a0 a1 F 0)
def R21_Same_L1 (F : Nat) (a0 : (List (List (List Bool)))) (a1 : (List (List (List Bool)))) (v2 : Int) (K2 : Unit → Option Bool) : Nat → Int → Option Bool
 | 0, _ => none
 | m + 1, v8 =>
 (idx a0 v2).bind fun x10 =>
 bif (decide (v8 < (x10.length : Int))) then ((idx a0 v2).bind fun x12 =>
 (idx x12 v8).bind fun x13 =>
 (idx a1 v2).bind fun x14 =>
 (idx x14 v8).bind fun x15 =>
 (R21_Bools F x13 x15).bind fun x16 =>
 bif (!x16) then (some false)
 else (R21_Same_L1 F a0 a1 v2 K2 m (IntKind.i64.wrap (v8 + 1))))
 else (K2 ())
def R21_Same_L0 (F : Nat) (a0 : (List (List (List Bool)))) (a1 : (List (List (List Bool)))) : Nat → Int → Option Bool
 | 0, _ => none
 | m + 1, v2 =>
 bif (decide (v2 < (a0.length : Int))) then ((idx a0 v2).bind fun x5 =>
 (idx a1 v2).bind fun x6 =>
 bif ((x5.length : Int) != (x6.length : Int)) then (some false)
 else (joinM (fun (_ : Unit) =>
 R21_Same_L0 F a0 a1 m (IntKind.i64.wrap (v2 + 1))) fun K2 =>
 R21_Same_L1 F a0 a1 v2 K2 F 0))
 else (some true)
def R21_Same (F : Nat) (a0 : (List (List (List Bool)))) (a1 : (List (List (List Bool)))) : Option Bool :=
 bif ((a0.length : Int) != (a1.length : Int)) then (some false)
 else (R21_Same_L0 F a0 a1 F 0)
def L21_FlowApart (F : Nat) (a0 : api_Code) (a1 : Int) : Option Bool :=
 (R20_Light F a0 2000).bind fun x2 =>
 bif ((((!x2) || (decide (80 ≤ (a0.Funs.length : Int)))) || (decide (4096 ≤ (a0.Texts.length : Int)))) || (decide (65536 ≤ (a0.Tables.length : Int)))) then ((L21_awake F).bind fun x4 =>
 some x4)
 else ((flow_Check F a0).bind fun x5 =>
 bif (x5.2 != 0) then ((L21_awake F).bind fun x7 =>
 some x7)
 else ((appM 56 ([] : List api_Func) a0.Funs).bind fun x10 =>
 (appM 56 x10 ([(api_Func.mk (⟨#[109, 111, 114, 101]⟩ : ByteArray) (IntKind.i64.wrap (1 + ((IntKind.i64.wrap a1).tmod 6))) (IntKind.i64.wrap (1 + ((IntKind.i64.wrap a1).tmod 6))) ([(api_Inst.mk 7 0 0 0)] : List api_Inst))] : List api_Func)).bind fun x14 =>
 (appM 24 ([] : List (List Int)) a0.Texts).bind fun x17 =>
 (appM 24 x17 ([([109, 111, 114, 101] : List Int)] : List (List Int))).bind fun x21 =>
 (appM 24 ([] : List (List Int)) a0.Tables).bind fun x24 =>
 (appM 24 x24 ([([0] : List Int)] : List (List Int))).bind fun x28 =>
 (flow_Check F ({ { { a0 with Funs := x14 } with Texts := x21 } with Tables := x28 })).bind fun x30 =>
 joinM (fun (v31 : Bool) =>
 joinM (fun (v34 : Bool) =>
 joinM (fun (v37 : Bool) =>
 some v37) fun K7 =>
 bif v34 then ((L21_awake F).bind fun x38 =>
 K7 x38)
 else (K7 false)) fun K6 =>
 bif v31 then ((idx x30.1 (x5.1.length : Int)).bind fun x35 =>
 (flow_Height F x35).bind fun x36 =>
 K6 (x36 == (IntKind.i64.wrap (1 + ((IntKind.i64.wrap a1).tmod 6)))))
 else (K6 false)) fun K5 =>
 bif ((x30.2 == 0) && ((x30.1.length : Int) == (IntKind.i64.wrap ((x5.1.length : Int) + 1)))) then ((subM x30.1 0 (x5.1.length : Int)).bind fun x32 =>
 (R21_Same F x5.1 x32).bind fun x33 =>
 K5 x33)
 else (K5 false)))
end
end Go.Proofs.Ytcdafogfmijcpaa.M
