/-
  Functions, as Lean functions that may have no answer.
-/
import Derived.Test.YtfbkgjmpadknfaaGT
namespace Go.Proofs.Ytfbkgjmpadknfaa.M
open Go.Proofs.YtfbkgjmpadknfaaW.Ah Go.Proofs.Ytfbkgjmpadknfaa
set_option linter.unusedVariables false
set_option linter.unusedSimpArgs false
set_option maxRecDepth 8000
def poly_unknown (F : Nat) (a0 : Int) : Option api_Term :=
 (idx ((api_Term.mk (Arr.rep 12 0) 1).Exps).1 a0).bind fun x3 =>
 some ({ (api_Term.mk (Arr.rep 12 0) 1) with Exps := (((api_Term.mk (Arr.rep 12 0) 1).Exps).set a0 1) })
def poly_Var (F : Nat) (a0 : Int) : Option ((List api_Term) × Int) :=
 bif ((decide (a0 < 0)) || (decide (12 ≤ a0))) then (some (([] : (List api_Term)), 20))
 else ((poly_unknown F a0).bind fun x2 =>
 some (([x2] : List api_Term), 0))
def poly_Num (F : Nat) (a0 : Int) : Option ((List api_Term) × Int) :=
 bif (decide (1099511627776 < a0)) then (some (([] : (List api_Term)), 17))
 else (bif (decide (a0 < 1)) then (some (([] : (List api_Term)), 0))
 else (some (([(api_Term.mk (Arr.rep 12 0) a0)] : List api_Term), 0)))
def poly_merged_api_Term_L0 (F : Nat) (φ2 : api_Term → api_Term → Option Int) (φ3 : api_Term → api_Term → Option api_Term) (K1 : (List api_Term) → (List api_Term) → (List api_Term) → Option (List api_Term)) : Nat → (List api_Term) → (List api_Term) → List api_Term → Option (List api_Term)
 | 0, _, _, _ => none
 | m + 1, v6, v7, v9 =>
 bif ((decide (0 < (v6.length : Int))) && (decide (0 < (v7.length : Int)))) then ((idx v6 0).bind fun x15 =>
 (idx v7 0).bind fun x16 =>
 (φ2 x15 x16).bind fun x17 =>
 bif (decide (x17 < 0)) then ((idx v6 0).bind fun x19 =>
 (appM 24 v9 ([x19] : List api_Term)).bind fun x21 =>
 (subM v6 1 (v6.length : Int)).bind fun x23 =>
 poly_merged_api_Term_L0 F φ2 φ3 K1 m x23 v7 x21)
 else (bif (decide (0 < x17)) then ((idx v7 0).bind fun x25 =>
 (appM 24 v9 ([x25] : List api_Term)).bind fun x27 =>
 (subM v7 1 (v7.length : Int)).bind fun x29 =>
 poly_merged_api_Term_L0 F φ2 φ3 K1 m v6 x29 x27)
 else ((idx v6 0).bind fun x30 =>
 (idx v7 0).bind fun x31 =>
 (φ3 x30 x31).bind fun x32 =>
 (appM 24 v9 ([x32] : List api_Term)).bind fun x34 =>
 (subM v6 1 (v6.length : Int)).bind fun x36 =>
 (subM v7 1 (v7.length : Int)).bind fun x37 =>
 poly_merged_api_Term_L0 F φ2 φ3 K1 m x36 x37 x34)))
 else (K1 v6 v7 v9)
def poly_merged_api_Term (F : Nat) (a0 : (List api_Term)) (a1 : (List api_Term)) (φ2 : api_Term → api_Term → Option Int) (φ3 : api_Term → api_Term → Option api_Term) : Option (List api_Term) :=
 joinM (fun (v2 : (List api_Term)) (v3 : (List api_Term)) (v5 : List api_Term) =>
 (appM 24 v5 v2).bind fun x38 =>
 (appM 24 x38 v3).bind fun x40 =>
 some x40) fun K1 =>
 poly_merged_api_Term_L0 F φ2 φ3 K1 F a0 a1 ([] : List api_Term)
def cmp_isNaN_uint8 (F : Nat) (a0 : Int) : Option Bool :=
 some (a0 != a0)
def cmp_Compare_uint8 (F : Nat) (a0 : Int) (a1 : Int) : Option Int :=
 (cmp_isNaN_uint8 F a0).bind fun x1 =>
 (cmp_isNaN_uint8 F a1).bind fun x2 =>
 bif x1 then (bif x2 then (some 0)
 else (some (-1)))
 else (bif x2 then (some 1)
 else (bif (decide (a0 < a1)) then (some (-1))
 else (bif (decide (a1 < a0)) then (some 1)
 else (some 0))))
def slices_Compare_uint8_uint8_L0 (F : Nat) (a0 : (List Int)) (a1 : (List Int)) (K1 : Unit → Option Int) : Nat → Int → Option Int
 | 0, _ => none
 | m + 1, v1 =>
 bif (decide (v1 < (a0.length : Int))) then ((idx a0 v1).bind fun x4 =>
 bif (decide ((a1.length : Int) ≤ v1)) then (some 1)
 else ((idx a1 v1).bind fun x6 =>
 (cmp_Compare_uint8 F x4 x6).bind fun x7 =>
 bif (x7 != 0) then (some x7)
 else (slices_Compare_uint8_uint8_L0 F a0 a1 K1 m (IntKind.i64.wrap (v1 + 1)))))
 else (K1 ())
def slices_Compare_uint8_uint8 (F : Nat) (a0 : (List Int)) (a1 : (List Int)) : Option Int :=
 joinM (fun (_ : Unit) =>
 bif (decide ((a0.length : Int) < (a1.length : Int))) then (some (-1))
 else (some 0)) fun K1 =>
 slices_Compare_uint8_uint8_L0 F a0 a1 K1 F 0
def poly_compare (F : Nat) (a0 : (Arr 12 Int)) (a1 : (Arr 12 Int)) : Option Int :=
 (slices_Compare_uint8_uint8 F a0.1 a1.1).bind fun x3 =>
 some x3
def poly_order (F : Nat) (a0 : api_Term) (a1 : api_Term) : Option Int :=
 (poly_compare F a0.Exps a1.Exps).bind fun x3 =>
 some x3
def poly_added (F : Nat) (a0 : api_Term) (a1 : api_Term) : Option api_Term :=
 some ({ a0 with Coef := (IntKind.i64.wrap (a0.Coef + a1.Coef)) })
def slices_IndexFunc_uint8_uint8_L0 (F : Nat) (a0 : (List Int)) (φ1 : Int → Option Bool) : Nat → Int → Option Int
 | 0, _ => none
 | m + 1, v1 =>
 bif (decide (v1 < (a0.length : Int))) then ((idx a0 v1).bind fun x4 =>
 (φ1 x4).bind fun x5 =>
 bif x5 then (some v1)
 else (slices_IndexFunc_uint8_uint8_L0 F a0 φ1 m (IntKind.i64.wrap (v1 + 1))))
 else (some (-1))
def slices_IndexFunc_uint8_uint8 (F : Nat) (a0 : (List Int)) (φ1 : Int → Option Bool) : Option Int :=
 slices_IndexFunc_uint8_uint8_L0 F a0 φ1 F 0
def slices_ContainsFunc_uint8_uint8 (F : Nat) (a0 : (List Int)) (φ1 : Int → Option Bool) : Option Bool :=
 (slices_IndexFunc_uint8_uint8 F a0 φ1).bind fun x1 =>
 some (decide (0 ≤ x1))
def poly_powers_fit_1 (F : Nat) (a0 : Int) : Option Bool :=
 some (decide (6 < a0))
def poly_powers_fit (F : Nat) (a0 : (Arr 12 Int)) : Option Bool :=
 (slices_ContainsFunc_uint8_uint8 F a0.1 (fun y0 => poly_powers_fit_1 F y0)).bind fun x2 =>
 some (!x2)
def poly_Fit_L0 (F : Nat) (a0 : (List api_Term)) : Nat → Int → Option Bool
 | 0, _ => none
 | m + 1, v2 =>
 bif (decide (v2 < (a0.length : Int))) then ((idx a0 v2).bind fun x5 =>
 joinM (fun (v7 : Bool) =>
 joinM (fun (v9 : Bool) =>
 bif v9 then (some false)
 else (poly_Fit_L0 F a0 m (IntKind.i64.wrap (v2 + 1)))) fun K4 =>
 bif v7 then (K4 true)
 else (joinM (fun (v10 : Bool) =>
 K4 v10) fun K5 =>
 bif (decide (0 < v2)) then ((idx a0 (IntKind.i64.wrap (v2 - 1))).bind fun x11 =>
 (poly_compare F x11.Exps x5.Exps).bind fun x12 =>
 K5 (decide (0 ≤ x12)))
 else (K5 false))) fun K3 =>
 bif ((decide (x5.Coef < 1)) || (decide (1099511627776 < x5.Coef))) then (K3 true)
 else ((poly_powers_fit F x5.Exps).bind fun x8 =>
 K3 (!x8)))
 else (some true)
def poly_Fit (F : Nat) (a0 : (List api_Term)) : Option Bool :=
 bif (decide (64 < (a0.length : Int))) then (some false)
 else (poly_Fit_L0 F a0 F 0)
def poly_checked (F : Nat) (a0 : (List api_Term)) : Option ((List api_Term) × Int) :=
 (poly_Fit F a0).bind fun x1 =>
 bif (!x1) then (some (([] : (List api_Term)), 17))
 else (some (a0, 0))
def poly_Add (F : Nat) (a0 : (List api_Term)) (a1 : (List api_Term)) : Option ((List api_Term) × Int) :=
 (poly_merged_api_Term F a0 a1 (fun y0 y1 => poly_order F y0 y1) (fun y0 y1 => poly_added F y0 y1)).bind fun x1 =>
 (poly_checked F x1).bind fun x2 =>
 some (x2.1, x2.2)
def poly_scaled_L1 (F : Nat) (a1 : api_Term) (K3 : api_Term → Option ((List api_Term) × Bool)) : Nat → Int → api_Term → Option ((List api_Term) × Bool)
 | 0, _, _ => none
 | m + 1, v15, v16 =>
 bif (decide (v15 < 12)) then ((idx v16.Exps.1 v15).bind fun x20 =>
 (idx a1.Exps.1 v15).bind fun x21 =>
 (idx v16.Exps.1 v15).bind fun x22 =>
 poly_scaled_L1 F a1 K3 m (IntKind.i64.wrap (v15 + 1)) ({ v16 with Exps := (v16.Exps.set v15 (IntKind.u8.wrap (x20 + x21))) }))
 else (K3 v16)
def poly_scaled_L0 (F : Nat) (a0 : (List api_Term)) (a1 : api_Term) (K1 : (List api_Term) → Option ((List api_Term) × Bool)) : Nat → Int → List api_Term → Option ((List api_Term) × Bool)
 | 0, _, _ => none
 | m + 1, v5, v6 =>
 bif (decide (v5 < (a0.length : Int))) then ((idx a0 v5).bind fun x10 =>
 (quoM .i64 1099511627776 a1.Coef).bind fun x12 =>
 bif (decide (x12 < x10.Coef)) then (some (([] : (List api_Term)), false))
 else (joinM (fun (v14 : api_Term) =>
 (idx v6 v5).bind fun x23 =>
 poly_scaled_L0 F a0 a1 K1 m (IntKind.i64.wrap (v5 + 1)) (v6.set v5.toNat v14)) fun K3 =>
 poly_scaled_L1 F a1 K3 F 0 ({ x10 with Coef := (IntKind.i64.wrap (x10.Coef * a1.Coef)) })))
 else (K1 v6)
def poly_scaled (F : Nat) (a0 : (List api_Term)) (a1 : api_Term) : Option ((List api_Term) × Bool) :=
 (makM 24 (api_Term.mk (Arr.rep 12 0) 0) (a0.length : Int)).bind fun x2 =>
 joinM (fun (v4 : List api_Term) =>
 (poly_Fit F v4).bind fun x24 =>
 some (v4, x24)) fun K1 =>
 poly_scaled_L0 F a0 a1 K1 F 0 x2
def poly_Mul_L0 (F : Nat) (a0 : (List api_Term)) (a1 : (List api_Term)) : Nat → (List api_Term) → Int → Option ((List api_Term) × Int)
 | 0, _, _ => none
 | m + 1, v1, v2 =>
 bif (decide (v2 < (a0.length : Int))) then ((idx a0 v2).bind fun x6 =>
 (poly_scaled F a1 x6).bind fun x8 =>
 bif (!x8.2) then (some (([] : (List api_Term)), 17))
 else ((poly_Add F v1 x8.1).bind fun x10 =>
 bif (x10.2 != 0) then (some (([] : (List api_Term)), x10.2))
 else (poly_Mul_L0 F a0 a1 m x10.1 (IntKind.i64.wrap (v2 + 1)))))
 else (some (v1, 0))
def poly_Mul (F : Nat) (a0 : (List api_Term)) (a1 : (List api_Term)) : Option ((List api_Term) × Int) :=
 poly_Mul_L0 F a0 a1 F ([] : (List api_Term)) 0
def poly_valued_1 (F : Nat) (a0 : Int) (a1 : (List Int)) : Option Int :=
 bif (decide ((a1.length : Int) ≤ a0)) then (some 0)
 else ((idx a1 a0).bind fun x2 =>
 some (if x2 < 0 then 0 else x2))
def poly_valued_L2 (F : Nat) (a1 : (List Int)) (v11 : Int) (x15 : Int) (K5 : Int → Option (Int × Bool)) : Nat → Int → Int → Option (Int × Bool)
 | 0, _, _ => none
 | m + 1, v17, v18 =>
 bif (decide (v18 < x15)) then ((poly_valued_1 F v11 a1).bind fun x22 =>
 (quoM .i64 1099511627776 x22).bind fun x23 =>
 bif (decide (x23 < v17)) then (some (0, false))
 else ((poly_valued_1 F v11 a1).bind fun x25 =>
 poly_valued_L2 F a1 v11 x15 K5 m (IntKind.i64.wrap (v17 * x25)) (IntKind.u8.wrap (v18 + 1))))
 else (K5 v17)
def poly_valued_L1 (F : Nat) (a0 : api_Term) (a1 : (List Int)) : Nat → Int → Int → Option (Int × Bool)
 | 0, _, _ => none
 | m + 1, v10, v11 =>
 bif (decide (v11 < 12)) then ((idx a0.Exps.1 v11).bind fun x15 =>
 joinM (fun (v16 : Int) =>
 poly_valued_L1 F a0 a1 m v16 (IntKind.i64.wrap (v11 + 1))) fun K5 =>
 poly_valued_L2 F a1 v11 x15 K5 F v10 0)
 else (some (v10, true))
def poly_valued_L0 (F : Nat) (a0 : api_Term) (a1 : (List Int)) (K1 : Unit → Option (Int × Bool)) : Nat → Int → Option (Int × Bool)
 | 0, _ => none
 | m + 1, v3 =>
 bif (decide (v3 < 12)) then ((idx a0.Exps.1 v3).bind fun x6 =>
 joinM (fun (v7 : Bool) =>
 bif v7 then (some (0, true))
 else (poly_valued_L0 F a0 a1 K1 m (IntKind.i64.wrap (v3 + 1)))) fun K3 =>
 bif (decide (0 < x6)) then ((poly_valued_1 F v3 a1).bind fun x8 =>
 K3 (x8 == 0))
 else (K3 false))
 else (K1 ())
def poly_valued (F : Nat) (a0 : api_Term) (a1 : (List Int)) : Option (Int × Bool) :=
 joinM (fun (_ : Unit) =>
 poly_valued_L1 F a0 a1 F a0.Coef 0) fun K1 =>
 poly_valued_L0 F a0 a1 K1 F 0
def poly_At_L0 (F : Nat) (a0 : (List api_Term)) (a1 : (List Int)) : Nat → Int → Int → Option (Int × Int)
 | 0, _, _ => none
 | m + 1, v1, v2 =>
 bif (decide (v2 < (a0.length : Int))) then ((idx a0 v2).bind fun x6 =>
 (poly_valued F x6 a1).bind fun x8 =>
 bif ((!x8.2) || (decide ((IntKind.i64.wrap (1099511627776 - v1)) < x8.1))) then (some (0, 17))
 else (poly_At_L0 F a0 a1 m (IntKind.i64.wrap (v1 + x8.1)) (IntKind.i64.wrap (v2 + 1))))
 else (some (v1, 0))
def poly_At (F : Nat) (a0 : (List api_Term)) (a1 : (List Int)) : Option (Int × Int) :=
 poly_At_L0 F a0 a1 F 0 0
def L13_awake (F : Nat) : Option Bool :=
 (poly_Var F 0).bind fun x1 =>
 (poly_Num F 2).bind fun x2 =>
 (poly_Num F 3).bind fun x3 =>
 (poly_Add F x1.1 x2.1).bind fun x4 =>
 (poly_Add F x1.1 x3.1).bind fun x5 =>
 (poly_Mul F x4.1 x5.1).bind fun x6 =>
 (poly_At F x6.1 ([4] : List Int)).bind fun x8 =>
 joinM (fun (v9 : Bool) =>
 some ((v9 && (x8.2 == 0)) && (x8.1 == 42))) fun K2 =>
 bif ((x6.2 == 0) && ((x6.1.length : Int) == 3)) then ((idx x6.1 0).bind fun x10 =>
 K2 (x10.Coef == 6))
 else (K2 false)
def R13_less_L0 (F : Nat) (a0 : (Arr 12 Int)) (a1 : (Arr 12 Int)) : Nat → Int → Option Bool
 | 0, _ => none
 | m + 1, v3 =>
 bif (decide (v3 < 12)) then ((idx a0.1 v3).bind fun x6 =>
 (idx a1.1 v3).bind fun x7 =>
 bif (x6 != x7) then ((idx a0.1 v3).bind fun x9 =>
 (idx a1.1 v3).bind fun x10 =>
 some (decide (x9 < x10)))
 else (R13_less_L0 F a0 a1 m (IntKind.i64.wrap (v3 + 1))))
 else (some false)
def R13_less (F : Nat) (a0 : (Arr 12 Int)) (a1 : (Arr 12 Int)) : Option Bool :=
 R13_less_L0 F a0 a1 F 0
def R13_Fit_L1 (F : Nat) (a0 : (List api_Term)) (v2 : Int) (K5 : Unit → Option Bool) : Nat → Int → Option Bool
 | 0, _ => none
 | m + 1, v14 =>
 bif (decide (v14 < 12)) then ((idx a0 v2).bind fun x17 =>
 (idx x17.Exps.1 v14).bind fun x18 =>
 bif (decide (6 < x18)) then (some false)
 else (R13_Fit_L1 F a0 v2 K5 m (IntKind.i64.wrap (v14 + 1))))
 else (K5 ())
def R13_Fit_L0 (F : Nat) (a0 : (List api_Term)) : Nat → Int → Option Bool
 | 0, _ => none
 | m + 1, v2 =>
 bif (decide (v2 < (a0.length : Int))) then ((idx a0 v2).bind fun x5 =>
 joinM (fun (v6 : Bool) =>
 joinM (fun (v8 : Bool) =>
 bif v8 then (some false)
 else (joinM (fun (_ : Unit) =>
 R13_Fit_L0 F a0 m (IntKind.i64.wrap (v2 + 1))) fun K5 =>
 R13_Fit_L1 F a0 v2 K5 F 0)) fun K3 =>
 bif v6 then (K3 true)
 else (joinM (fun (v9 : Bool) =>
 K3 v9) fun K4 =>
 bif (decide (0 < v2)) then ((idx a0 (IntKind.i64.wrap (v2 - 1))).bind fun x10 =>
 (idx a0 v2).bind fun x11 =>
 (R13_less F x10.Exps x11.Exps).bind fun x12 =>
 K4 (!x12))
 else (K4 false))) fun K2 =>
 bif (decide (x5.Coef < 1)) then (K2 true)
 else ((idx a0 v2).bind fun x7 =>
 K2 (decide (1099511627776 < x7.Coef))))
 else (some true)
def R13_Fit (F : Nat) (a0 : (List api_Term)) : Option Bool :=
 bif (decide (64 < (a0.length : Int))) then (some false)
 else (R13_Fit_L0 F a0 F 0)
def L13_few_L0 (F : Nat) (a0 : (List (List api_Term))) : Nat → Int → Int → Option Bool
 | 0, _, _ => none
 | m + 1, v1, v2 =>
 bif (decide (v2 < (a0.length : Int))) then ((idx a0 v2).bind fun x6 =>
 (idx a0 v2).bind fun x7 =>
 (R13_Fit F x7).bind fun x8 =>
 bif ((!x8) || (decide (30 < (IntKind.i64.wrap (v1 + (x6.length : Int)))))) then (some false)
 else (L13_few_L0 F a0 m (IntKind.i64.wrap (v1 + (x6.length : Int))) (IntKind.i64.wrap (v2 + 1))))
 else (some (decide ((a0.length : Int) ≤ 20)))
def L13_few (F : Nat) (a0 : (List (List api_Term))) : Option Bool :=
 L13_few_L0 F a0 F 0 0
def R13_Same_L0 (F : Nat) (a0 : (List api_Term)) (a1 : (List api_Term)) : Nat → Int → Option Bool
 | 0, _ => none
 | m + 1, v2 =>
 bif (decide (v2 < (a0.length : Int))) then ((idx a0 v2).bind fun x5 =>
 (idx a1 v2).bind fun x6 =>
 bif (!((x5.Exps.1 == x6.Exps.1) && ((x5.Coef == x6.Coef)))) then (some false)
 else (R13_Same_L0 F a0 a1 m (IntKind.i64.wrap (v2 + 1))))
 else (some true)
def R13_Same (F : Nat) (a0 : (List api_Term)) (a1 : (List api_Term)) : Option Bool :=
 bif ((a0.length : Int) != (a1.length : Int)) then (some false)
 else (R13_Same_L0 F a0 a1 F 0)
def L13_PolyRing (F : Nat) (a0 : (List api_Term)) (a1 : (List api_Term)) (a2 : (List api_Term)) : Option Bool :=
 (L13_few F ([a0, a1, a2] : List (List api_Term))).bind fun x2 =>
 bif (!x2) then ((L13_awake F).bind fun x4 =>
 some x4)
 else ((poly_Add F a0 a1).bind fun x5 =>
 (poly_Add F a1 a0).bind fun x6 =>
 (poly_Mul F a0 a1).bind fun x7 =>
 (poly_Mul F a1 a0).bind fun x8 =>
 joinM (fun (v9 : Bool) =>
 joinM (fun (v11 : Bool) =>
 joinM (fun (v13 : Bool) =>
 joinM (fun (v15 : Bool) =>
 bif v15 then (some false)
 else ((poly_Mul F x5.1 a2).bind fun x18 =>
 (poly_Mul F a0 a2).bind fun x19 =>
 (poly_Mul F a1 a2).bind fun x20 =>
 (poly_Add F x19.1 x20.1).bind fun x21 =>
 joinM (fun (v22 : Bool) =>
 bif v22 then (some false)
 else ((poly_Mul F x7.1 a2).bind fun x25 =>
 (poly_Mul F a1 a2).bind fun x26 =>
 (poly_Mul F a0 x26.1).bind fun x27 =>
 joinM (fun (v28 : Bool) =>
 joinM (fun (v30 : Bool) =>
 some v30) fun K15 =>
 bif v28 then ((L13_awake F).bind fun x31 =>
 K15 x31)
 else (K15 false)) fun K14 =>
 bif ((((x7.2 != 0) || (x25.2 != 0)) || (x26.2 != 0)) || (x27.2 != 0)) then (K14 true)
 else ((R13_Same F x25.1 x27.1).bind fun x29 =>
 K14 x29))) fun K10 =>
 bif (((((x5.2 == 0) && (x18.2 == 0)) && (x19.2 == 0)) && (x20.2 == 0)) && (x21.2 == 0)) then ((R13_Same F x18.1 x21.1).bind fun x23 =>
 K10 (!x23))
 else (K10 false))) fun K5 =>
 bif v13 then (K5 true)
 else ((R13_Fit F x7.1).bind fun x16 =>
 K5 (!x16))) fun K4 =>
 bif v11 then (K4 true)
 else ((R13_Fit F x5.1).bind fun x14 =>
 K4 (!x14))) fun K3 =>
 bif v9 then (K3 true)
 else ((R13_Same F x7.1 x8.1).bind fun x12 =>
 K3 (!x12))) fun K2 =>
 bif ((x5.2 != x6.2) || (x7.2 != x8.2)) then (K2 true)
 else ((R13_Same F x5.1 x6.1).bind fun x10 =>
 K2 (!x10)))
def poly_greater (F : Nat) (a0 : api_Term) (a1 : api_Term) : Option api_Term :=
 some ({ a0 with Coef := (if a0.Coef < a1.Coef then a1.Coef else a0.Coef) })
def poly_Max (F : Nat) (a0 : (List api_Term)) (a1 : (List api_Term)) : Option ((List api_Term) × Int) :=
 (poly_merged_api_Term F a0 a1 (fun y0 y1 => poly_order F y0 y1) (fun y0 y1 => poly_greater F y0 y1)).bind fun x1 =>
 (poly_checked F x1).bind fun x2 =>
 some (x2.1, x2.2)
def L13_PolyRises (F : Nat) (a0 : (List api_Term)) (a1 : (List api_Term)) (a2 : (List Int)) (a3 : Int) (a4 : Int) : Option Bool :=
 (L13_few F ([a0, a1] : List (List api_Term))).bind fun x2 =>
 bif ((!x2) || (decide (20 < (a2.length : Int)))) then ((L13_awake F).bind fun x4 =>
 some x4)
 else ((poly_Max F a0 a1).bind fun x5 =>
 (poly_Max F a1 a0).bind fun x6 =>
 (poly_Max F a0 a0).bind fun x7 =>
 (poly_Add F a0 a1).bind fun x8 =>
 joinM (fun (v9 : Bool) =>
 joinM (fun (v11 : Bool) =>
 bif v11 then (some false)
 else ((poly_At F x5.1 a2).bind fun x14 =>
 (poly_At F x8.1 a2).bind fun x15 =>
 bif (((((x5.2 == 0) && (x8.2 == 0)) && (x14.2 == 0)) && (x15.2 == 0)) && (decide (x15.1 < x14.1))) then (some false)
 else ((appM 8 ([] : List Int) a2).bind fun x18 =>
 joinM (fun (v21 : List Int) (v22 : Bool) =>
 joinM (fun (v27 : List Int) =>
 (poly_At F a0 a2).bind fun x33 =>
 (poly_At F a0 v27).bind fun x34 =>
 joinM (fun (v35 : Bool) =>
 some v35) fun K13 =>
 bif ((x34.2 != 0) || ((x33.2 == 0) && (decide (x33.1 ≤ x34.1)))) then ((L13_awake F).bind fun x36 =>
 K13 x36)
 else (K13 false)) fun K10 =>
 bif v22 then ((remM (IntKind.i64.wrap a3) (v21.length : Int)).bind fun x29 =>
 (idx v21 x29).bind fun x30 =>
 (idx v21 x29).bind fun x32 =>
 K10 (v21.set x29.toNat (IntKind.i64.wrap (x30 + (IntKind.i64.wrap a4)))))
 else (K10 v21)) fun K9 =>
 bif (decide (0 < (x18.length : Int))) then ((remM (IntKind.i64.wrap a3) (x18.length : Int)).bind fun x23 =>
 (idx x18 x23).bind fun x24 =>
 K9 x18 (decide (x24 < 4611686018427387904)))
 else (K9 x18 false)))) fun K4 =>
 bif (v9 || (x7.2 != 0)) then (K4 true)
 else ((R13_Same F x7.1 a0).bind fun x12 =>
 K4 (!x12))) fun K2 =>
 bif (x5.2 != x6.2) then (K2 true)
 else ((R13_Same F x5.1 x6.1).bind fun x10 =>
 K2 (!x10)))
def poly_Put_L2 (F : Nat) (x15 : Int) (v18 : (List api_Term)) (K5 : (List api_Term) → Option ((List api_Term) × Int)) : Nat → (List api_Term) → Int → Option ((List api_Term) × Int)
 | 0, _, _ => none
 | m + 1, v22, v23 =>
 bif (decide (v23 < x15)) then ((poly_Mul F v22 v18).bind fun x27 =>
 bif (x27.2 != 0) then (some (([] : (List api_Term)), x27.2))
 else (poly_Put_L2 F x15 v18 K5 m x27.1 (IntKind.u8.wrap (v23 + 1))))
 else (K5 v22)
def poly_Put_L1 (F : Nat) (a1 : (List (List api_Term))) (x6 : api_Term) (K2 : (List api_Term) → Option ((List api_Term) × Int)) : Nat → (List api_Term) → Int → Option ((List api_Term) × Int)
 | 0, _, _ => none
 | m + 1, v10, v11 =>
 bif (decide (v11 < 12)) then ((idx x6.Exps.1 v11).bind fun x15 =>
 (poly_unknown F v11).bind fun x16 =>
 joinM (fun (v18 : (List api_Term)) =>
 joinM (fun (v21 : (List api_Term)) =>
 poly_Put_L1 F a1 x6 K2 m v21 (IntKind.i64.wrap (v11 + 1))) fun K5 =>
 poly_Put_L2 F x15 v18 K5 F v10 0) fun K4 =>
 bif (decide (v11 < (a1.length : Int))) then ((idx a1 v11).bind fun x20 =>
 K4 x20)
 else (K4 ([x16] : List api_Term)))
 else (K2 v10)
def poly_Put_L0 (F : Nat) (a0 : (List api_Term)) (a1 : (List (List api_Term))) : Nat → (List api_Term) → Int → Option ((List api_Term) × Int)
 | 0, _, _ => none
 | m + 1, v1, v2 =>
 bif (decide (v2 < (a0.length : Int))) then ((idx a0 v2).bind fun x6 =>
 (poly_Num F x6.Coef).bind fun x8 =>
 joinM (fun (v9 : (List api_Term)) =>
 (poly_Add F v1 v9).bind fun x29 =>
 bif (x29.2 != 0) then (some (([] : (List api_Term)), x29.2))
 else (poly_Put_L0 F a0 a1 m x29.1 (IntKind.i64.wrap (v2 + 1)))) fun K2 =>
 poly_Put_L1 F a1 x6 K2 F x8.1 0)
 else (some (v1, 0))
def poly_Put (F : Nat) (a0 : (List api_Term)) (a1 : (List (List api_Term))) : Option ((List api_Term) × Int) :=
 poly_Put_L0 F a0 a1 F ([] : (List api_Term)) 0
def L13_PolyPuts_L1 (F : Nat) (a1 : (List (List api_Term))) (K5 : (List Int) → (List Int) → Option Bool) : Nat → List Int → List Int → Int → Option Bool
 | 0, _, _, _ => none
 | m + 1, v30, v32, v33 =>
 bif (decide (v33 < 12)) then (joinM (fun (v41 : List Int) (v42 : Int) (v43 : Int) =>
 bif (v43 != 0) then ((L13_awake F).bind fun x51 =>
 some x51)
 else ((appM 8 v32 ([v42] : List Int)).bind fun x53 =>
 L13_PolyPuts_L1 F a1 K5 m v41 x53 (IntKind.i64.wrap (v33 + 1)))) fun K7 =>
 bif (decide (v33 < (a1.length : Int))) then ((idx a1 v33).bind fun x45 =>
 (poly_At F x45 v30).bind fun x46 =>
 K7 v30 x46.1 x46.2)
 else (bif (decide (v33 < (v30.length : Int))) then ((idx v30 v33).bind fun x48 =>
 K7 v30 x48 0)
 else (K7 v30 0 0)))
 else (K5 v30 v32)
def L13_PolyPuts_L0 (F : Nat) (a2 : (List Int)) (K3 : (List Int) → Option Bool) : Nat → List Int → Int → Option Bool
 | 0, _, _ => none
 | m + 1, v15, v16 =>
 bif (decide (v16 < (a2.length : Int))) then ((idx a2 v16).bind fun x21 =>
 (appM 8 v15 ([(IntKind.i64.wrap x21)] : List Int)).bind fun x23 =>
 L13_PolyPuts_L0 F a2 K3 m x23 (IntKind.i64.wrap (v16 + 1)))
 else (K3 v15)
def L13_PolyPuts (F : Nat) (a0 : (List api_Term)) (a1 : (List (List api_Term))) (a2 : (List Int)) : Option Bool :=
 (L13_few F ([a0] : List (List api_Term))).bind fun x2 =>
 joinM (fun (v3 : Bool) =>
 bif (v3 || (decide (20 < (a2.length : Int)))) then ((L13_awake F).bind fun x6 =>
 some x6)
 else ((poly_Put F a0 a1).bind fun x7 =>
 bif (x7.2 != 0) then ((L13_awake F).bind fun x9 =>
 some x9)
 else (joinM (fun (v13 : List Int) =>
 joinM (fun (v26 : List Int) (v28 : List Int) =>
 (poly_At F x7.1 v26).bind fun x55 =>
 (poly_At F a0 v28).bind fun x56 =>
 joinM (fun (v57 : Bool) =>
 some v57) fun K9 =>
 bif ((x55.2 == x56.2) && (x55.1 == x56.1)) then ((L13_awake F).bind fun x58 =>
 K9 x58)
 else (K9 false)) fun K5 =>
 L13_PolyPuts_L1 F a1 K5 F v13 ([] : List Int) 0) fun K3 =>
 L13_PolyPuts_L0 F a2 K3 F ([] : List Int) 0))) fun K1 =>
 bif (!x2) then (K1 true)
 else ((L13_few F a1).bind fun x4 =>
 K1 (!x4))
def R13_put_L0 (F : Nat) (a0 : (List api_Term)) (a1 : api_Term) (a2 : Bool) (K1 : (List api_Term) → Bool → Option (List api_Term)) : Nat → List api_Term → Bool → Int → Option (List api_Term)
 | 0, _, _, _ => none
 | m + 1, v7, v8, v9 =>
 bif (decide (v9 < (a0.length : Int))) then ((idx a0 v9).bind fun x15 =>
 joinM (fun (v17 : Bool) =>
 joinM (fun (v20 : List api_Term) (v21 : Bool) =>
 joinM (fun (v26 : Bool) (v27 : api_Term) =>
 (appM 24 v20 ([v27] : List api_Term)).bind fun x31 =>
 R13_put_L0 F a0 a1 a2 K1 m x31 v26 (IntKind.i64.wrap (v9 + 1))) fun K5 =>
 bif (x15.Exps.1 == a1.Exps.1) then (bif a2 then (K5 true ({ x15 with Coef := (IntKind.i64.wrap (x15.Coef + a1.Coef)) }))
 else (K5 true ({ x15 with Coef := (if x15.Coef < a1.Coef then a1.Coef else x15.Coef) })))
 else (K5 v21 x15)) fun K4 =>
 bif v17 then ((appM 24 v7 ([a1] : List api_Term)).bind fun x24 =>
 K4 x24 true)
 else (K4 v7 v8)) fun K3 =>
 bif (!v8) then ((R13_less F a1.Exps x15.Exps).bind fun x18 =>
 K3 x18)
 else (K3 false))
 else (K1 v7 v8)
def R13_put (F : Nat) (a0 : (List api_Term)) (a1 : api_Term) (a2 : Bool) : Option (List api_Term) :=
 joinM (fun (v4 : List api_Term) (v5 : Bool) =>
 bif (!v5) then ((appM 24 v4 ([a1] : List api_Term)).bind fun x35 =>
 some x35)
 else (some v4)) fun K1 =>
 R13_put_L0 F a0 a1 a2 K1 F ([] : List api_Term) false 0
def R13_own (F : Nat) (a0 : (List api_Term)) : Option (List api_Term) :=
 (appM 24 ([] : List api_Term) a0).bind fun x2 =>
 some x2
def R13_merge_L0 (F : Nat) (a1 : (List api_Term)) (a2 : Bool) (K1 : (List api_Term) → Option ((List api_Term) × Int)) : Nat → (List api_Term) → Int → Option ((List api_Term) × Int)
 | 0, _, _ => none
 | m + 1, v2, v3 =>
 bif (decide (v3 < (a1.length : Int))) then ((idx a1 v3).bind fun x7 =>
 (R13_put F v2 x7 a2).bind fun x8 =>
 R13_merge_L0 F a1 a2 K1 m x8 (IntKind.i64.wrap (v3 + 1)))
 else (K1 v2)
def R13_merge (F : Nat) (a0 : (List api_Term)) (a1 : (List api_Term)) (a2 : Bool) : Option ((List api_Term) × Int) :=
 joinM (fun (v1 : (List api_Term)) =>
 (R13_Fit F v1).bind fun x9 =>
 bif (!x9) then (some (([] : (List api_Term)), 17))
 else ((R13_own F v1).bind fun x11 =>
 some (x11, 0))) fun K1 =>
 R13_merge_L0 F a1 a2 K1 F a0 0
def R13_Add (F : Nat) (a0 : (List api_Term)) (a1 : (List api_Term)) : Option ((List api_Term) × Int) :=
 (R13_merge F a0 a1 true).bind fun x1 =>
 some (x1.1, x1.2)
def R13_Mul_L2 (F : Nat) (a0 : (List api_Term)) (a1 : (List api_Term)) (v2 : Int) (v8 : Int) (K4 : api_Term → Option ((List api_Term) × Int)) : Nat → Int → api_Term → Option ((List api_Term) × Int)
 | 0, _, _ => none
 | m + 1, v20, v21 =>
 bif (decide (v20 < 12)) then ((idx a0 v2).bind fun x25 =>
 (idx x25.Exps.1 v20).bind fun x26 =>
 (idx a1 v8).bind fun x27 =>
 (idx x27.Exps.1 v20).bind fun x28 =>
 (idx v21.Exps.1 v20).bind fun x29 =>
 R13_Mul_L2 F a0 a1 v2 v8 K4 m (IntKind.i64.wrap (v20 + 1)) ({ v21 with Exps := (v21.Exps.set v20 (IntKind.u8.wrap (x26 + x28))) }))
 else (K4 v21)
def R13_Mul_L1 (F : Nat) (a0 : (List api_Term)) (a1 : (List api_Term)) (v2 : Int) (K2 : (List api_Term) → Option ((List api_Term) × Int)) : Nat → (List api_Term) → Int → Option ((List api_Term) × Int)
 | 0, _, _ => none
 | m + 1, v7, v8 =>
 bif (decide (v8 < (a1.length : Int))) then ((idx a0 v2).bind fun x13 =>
 (idx a1 v8).bind fun x14 =>
 (quoM .i64 1099511627776 x14.Coef).bind fun x15 =>
 bif (decide (x15 < x13.Coef)) then (some (([] : (List api_Term)), 17))
 else ((idx a0 v2).bind fun x17 =>
 (idx a1 v8).bind fun x18 =>
 joinM (fun (v19 : api_Term) =>
 (R13_put F v7 v19 true).bind fun x30 =>
 (R13_Fit F x30).bind fun x31 =>
 bif (!x31) then (some (([] : (List api_Term)), 17))
 else (R13_Mul_L1 F a0 a1 v2 K2 m x30 (IntKind.i64.wrap (v8 + 1)))) fun K4 =>
 R13_Mul_L2 F a0 a1 v2 v8 K4 F 0 ({ (api_Term.mk (Arr.rep 12 0) 0) with Coef := (IntKind.i64.wrap (x17.Coef * x18.Coef)) })))
 else (K2 v7)
def R13_Mul_L0 (F : Nat) (a0 : (List api_Term)) (a1 : (List api_Term)) : Nat → (List api_Term) → Int → Option ((List api_Term) × Int)
 | 0, _, _ => none
 | m + 1, v1, v2 =>
 bif (decide (v2 < (a0.length : Int))) then (joinM (fun (v6 : (List api_Term)) =>
 R13_Mul_L0 F a0 a1 m v6 (IntKind.i64.wrap (v2 + 1))) fun K2 =>
 R13_Mul_L1 F a0 a1 v2 K2 F v1 0)
 else (some (v1, 0))
def R13_Mul (F : Nat) (a0 : (List api_Term)) (a1 : (List api_Term)) : Option ((List api_Term) × Int) :=
 R13_Mul_L0 F a0 a1 F ([] : (List api_Term)) 0
def R13_Max (F : Nat) (a0 : (List api_Term)) (a1 : (List api_Term)) : Option ((List api_Term) × Int) :=
 (R13_merge F a0 a1 false).bind fun x1 =>
 some (x1.1, x1.2)
def R13_Num (F : Nat) (a0 : Int) : Option ((List api_Term) × Int) :=
 bif (decide (1099511627776 < a0)) then (some (([] : (List api_Term)), 17))
 else (bif (decide (a0 < 1)) then (some (([] : (List api_Term)), 0))
 else (some (([(api_Term.mk (Arr.rep 12 0) a0)] : List api_Term), 0)))
def R13_Var (F : Nat) (a0 : Int) : Option ((List api_Term) × Int) :=
 bif ((decide (a0 < 0)) || (decide (12 ≤ a0))) then (some (([] : (List api_Term)), 20))
 else ((idx ((api_Term.mk (Arr.rep 12 0) 1).Exps).1 a0).bind fun x3 =>
 some (([{ (api_Term.mk (Arr.rep 12 0) 1) with Exps := (((api_Term.mk (Arr.rep 12 0) 1).Exps).set a0 1) }] : List api_Term), 0))
def R13_Put_L2 (F : Nat) (a0 : (List api_Term)) (v2 : Int) (v12 : Int) (v18 : (List api_Term)) (K5 : (List api_Term) → Int → Option ((List api_Term) × Int)) : Nat → (List api_Term) → Int → Int → Option ((List api_Term) × Int)
 | 0, _, _, _ => none
 | m + 1, v23, v24, v25 =>
 (idx a0 v2).bind fun x29 =>
 (idx x29.Exps.1 v12).bind fun x30 =>
 bif ((decide (v25 < (IntKind.i64.wrap x30))) && (v24 == 0)) then ((R13_Mul F v23 v18).bind fun x32 =>
 R13_Put_L2 F a0 v2 v12 v18 K5 m x32.1 x32.2 (IntKind.i64.wrap (v25 + 1)))
 else (K5 v23 v24)
def R13_Put_L1 (F : Nat) (a0 : (List api_Term)) (a1 : (List (List api_Term))) (v2 : Int) (K2 : (List api_Term) → Int → Option ((List api_Term) × Int)) : Nat → (List api_Term) → Int → Int → Option ((List api_Term) × Int)
 | 0, _, _, _ => none
 | m + 1, v10, v11, v12 =>
 bif (decide (v12 < 12)) then ((R13_Var F v12).bind fun x17 =>
 joinM (fun (v18 : (List api_Term)) =>
 joinM (fun (v21 : (List api_Term)) (v22 : Int) =>
 R13_Put_L1 F a0 a1 v2 K2 m v21 v22 (IntKind.i64.wrap (v12 + 1))) fun K5 =>
 R13_Put_L2 F a0 v2 v12 v18 K5 F v10 v11 0) fun K4 =>
 bif (decide (v12 < (a1.length : Int))) then ((idx a1 v12).bind fun x20 =>
 K4 x20)
 else (K4 x17.1))
 else (K2 v10 v11)
def R13_Put_L0 (F : Nat) (a0 : (List api_Term)) (a1 : (List (List api_Term))) : Nat → (List api_Term) → Int → Option ((List api_Term) × Int)
 | 0, _, _ => none
 | m + 1, v1, v2 =>
 bif (decide (v2 < (a0.length : Int))) then ((idx a0 v2).bind fun x6 =>
 (R13_Num F x6.Coef).bind fun x7 =>
 joinM (fun (v8 : (List api_Term)) (v9 : Int) =>
 joinM (fun (v33 : (List api_Term)) (v34 : Int) =>
 bif (v34 != 0) then (some (([] : (List api_Term)), v34))
 else (R13_Put_L0 F a0 a1 m v33 (IntKind.i64.wrap (v2 + 1)))) fun K8 =>
 bif (v9 == 0) then ((R13_Add F v1 v8).bind fun x36 =>
 K8 x36.1 x36.2)
 else (K8 v1 v9)) fun K2 =>
 R13_Put_L1 F a0 a1 v2 K2 F x7.1 x7.2 0)
 else (some (v1, 0))
def R13_Put (F : Nat) (a0 : (List api_Term)) (a1 : (List (List api_Term))) : Option ((List api_Term) × Int) :=
 R13_Put_L0 F a0 a1 F ([] : (List api_Term)) 0
def L13_PolyDoes (F : Nat) (a0 : (List api_Term)) (a1 : (List api_Term)) (a2 : (List (List api_Term))) : Option Bool :=
 (L13_few F ([a0, a1] : List (List api_Term))).bind fun x2 =>
 joinM (fun (v3 : Bool) =>
 bif v3 then ((L13_awake F).bind fun x6 =>
 some x6)
 else ((poly_Add F a0 a1).bind fun x7 =>
 (R13_Add F a0 a1).bind fun x8 =>
 (poly_Mul F a0 a1).bind fun x9 =>
 (R13_Mul F a0 a1).bind fun x10 =>
 (poly_Max F a0 a1).bind fun x11 =>
 (R13_Max F a0 a1).bind fun x12 =>
 (poly_Put F a0 a2).bind fun x13 =>
 (R13_Put F a0 a2).bind fun x14 =>
 (R13_Same F x7.1 x8.1).bind fun x15 =>
 joinM (fun (v16 : Bool) =>
 joinM (fun (v18 : Bool) =>
 joinM (fun (v20 : Bool) =>
 joinM (fun (v22 : Bool) =>
 some v22) fun K9 =>
 bif (v20 && (x13.2 == x14.2)) then ((L13_awake F).bind fun x23 =>
 K9 x23)
 else (K9 false)) fun K7 =>
 bif (v18 && (x11.2 == x12.2)) then ((R13_Same F x13.1 x14.1).bind fun x21 =>
 K7 x21)
 else (K7 false)) fun K5 =>
 bif (v16 && (x9.2 == x10.2)) then ((R13_Same F x11.1 x12.1).bind fun x19 =>
 K5 x19)
 else (K5 false)) fun K3 =>
 bif (x15 && (x7.2 == x8.2)) then ((R13_Same F x9.1 x10.1).bind fun x17 =>
 K3 x17)
 else (K3 false))) fun K1 =>
 bif (!x2) then (K1 true)
 else ((L13_few F a2).bind fun x4 =>
 K1 (!x4))
def R13_term_L2 (F : Nat) (a0 : api_Term) (a1 : (List Int)) (v11 : Int) (K6 : Int → Option (Int × Int)) : Nat → Int → Int → Option (Int × Int)
 | 0, _, _ => none
 | m + 1, v16, v17 =>
 (idx a0.Exps.1 v11).bind fun x20 =>
 bif (decide (v17 < (IntKind.i64.wrap x20))) then ((idx a1 v11).bind fun x22 =>
 (quoM .i64 1099511627776 x22).bind fun x23 =>
 bif (decide (x23 < v16)) then (some (0, 17))
 else ((idx a1 v11).bind fun x25 =>
 R13_term_L2 F a0 a1 v11 K6 m (IntKind.i64.wrap (v16 * x25)) (IntKind.i64.wrap (v17 + 1))))
 else (K6 v16)
def R13_term_L1 (F : Nat) (a0 : api_Term) (a1 : (List Int)) : Nat → Int → Int → Option (Int × Int)
 | 0, _, _ => none
 | m + 1, v10, v11 =>
 bif (decide (v11 < 12)) then (joinM (fun (v15 : Int) =>
 R13_term_L1 F a0 a1 m v15 (IntKind.i64.wrap (v11 + 1))) fun K6 =>
 R13_term_L2 F a0 a1 v11 K6 F v10 0)
 else (some (v10, 0))
def R13_term_L0 (F : Nat) (a0 : api_Term) (a1 : (List Int)) (K1 : Unit → Option (Int × Int)) : Nat → Int → Option (Int × Int)
 | 0, _ => none
 | m + 1, v2 =>
 bif (decide (v2 < 12)) then ((idx a0.Exps.1 v2).bind fun x5 =>
 joinM (fun (v6 : Bool) =>
 bif v6 then (some (0, 0))
 else (R13_term_L0 F a0 a1 K1 m (IntKind.i64.wrap (v2 + 1)))) fun K3 =>
 bif (decide (0 < x5)) then (joinM (fun (v7 : Bool) =>
 K3 v7) fun K4 =>
 bif (decide ((a1.length : Int) ≤ v2)) then (K4 true)
 else ((idx a1 v2).bind fun x8 =>
 K4 (decide (x8 < 1))))
 else (K3 false))
 else (K1 ())
def R13_term (F : Nat) (a0 : api_Term) (a1 : (List Int)) : Option (Int × Int) :=
 joinM (fun (_ : Unit) =>
 R13_term_L1 F a0 a1 F a0.Coef 0) fun K1 =>
 R13_term_L0 F a0 a1 K1 F 0
def R13_At_L0 (F : Nat) (a0 : (List api_Term)) (a1 : (List Int)) : Nat → Int → Int → Option (Int × Int)
 | 0, _, _ => none
 | m + 1, v1, v2 =>
 bif (decide (v2 < (a0.length : Int))) then ((idx a0 v2).bind fun x6 =>
 (R13_term F x6 a1).bind fun x7 =>
 bif ((x7.2 != 0) || (decide ((IntKind.i64.wrap (1099511627776 - v1)) < x7.1))) then (some (0, 17))
 else (R13_At_L0 F a0 a1 m (IntKind.i64.wrap (v1 + x7.1)) (IntKind.i64.wrap (v2 + 1))))
 else (some (v1, 0))
def R13_At (F : Nat) (a0 : (List api_Term)) (a1 : (List Int)) : Option (Int × Int) :=
 R13_At_L0 F a0 a1 F 0 0
def slices_Clone_api_Poly_api_Term (F : Nat) (a0 : (List api_Term)) : Option (List api_Term) :=
 appM 24 [] a0
def poly_Split_L0 (F : Nat) (a0 : (List api_Term)) (a1 : Int) (x4 : api_Term) (K2 : Int → (List api_Term) → Option (Int × (List api_Term) × Bool)) : Nat → Int → List api_Term → Int → Option (Int × (List api_Term) × Bool)
 | 0, _, _, _ => none
 | m + 1, v9, v11, v12 =>
 bif (decide (v12 < (a0.length : Int))) then ((idx a0 v12).bind fun x18 =>
 bif (x18.Exps.1 == x4.Exps.1) then (poly_Split_L0 F a0 a1 x4 K2 m x18.Coef v11 (IntKind.i64.wrap (v12 + 1)))
 else ((idx x18.Exps.1 a1).bind fun x21 =>
 bif (decide (0 < x21)) then (some (0, ([] : List api_Term), false))
 else ((appM 24 v11 ([x18] : List api_Term)).bind fun x25 =>
 poly_Split_L0 F a0 a1 x4 K2 m v9 x25 (IntKind.i64.wrap (v12 + 1)))))
 else (K2 v9 v11)
def poly_Split (F : Nat) (a0 : (List api_Term)) (a1 : Int) : Option (Int × (List api_Term) × Bool) :=
 bif ((decide (a1 < 0)) || (decide (12 ≤ a1))) then ((slices_Clone_api_Poly_api_Term F a0).bind fun x3 =>
 some (0, x3, true))
 else ((poly_unknown F a1).bind fun x4 =>
 joinM (fun (v6 : Int) (v8 : List api_Term) =>
 some (v6, v8, true)) fun K2 =>
 poly_Split_L0 F a0 a1 x4 K2 F 0 ([] : List api_Term) 0)
def R13_Has_L0 (F : Nat) (a0 : (List api_Term)) (a1 : Int) : Nat → Int → Option Bool
 | 0, _ => none
 | m + 1, v1 =>
 bif (decide (v1 < (a0.length : Int))) then (joinM (fun (v4 : Bool) =>
 bif v4 then (some true)
 else (R13_Has_L0 F a0 a1 m (IntKind.i64.wrap (v1 + 1)))) fun K3 =>
 bif ((decide (0 ≤ a1)) && (decide (a1 < 12))) then ((idx a0 v1).bind fun x5 =>
 (idx x5.Exps.1 a1).bind fun x6 =>
 K3 (decide (0 < x6)))
 else (K3 false))
 else (some false)
def R13_Has (F : Nat) (a0 : (List api_Term)) (a1 : Int) : Option Bool :=
 R13_Has_L0 F a0 a1 F 0
def R13_Split_L0 (F : Nat) (a0 : (List api_Term)) (a1 : Int) (x1 : ((List api_Term) × Int)) (K1 : (List api_Term) → Int → Option (Int × (List api_Term) × Bool)) : Nat → List api_Term → Int → Int → Option (Int × (List api_Term) × Bool)
 | 0, _, _, _ => none
 | m + 1, v7, v8, v9 =>
 bif (decide (v9 < (a0.length : Int))) then (joinM (fun (v15 : Bool) =>
 bif v15 then ((idx a0 v9).bind fun x19 =>
 R13_Split_L0 F a0 a1 x1 K1 m v7 x19.Coef (IntKind.i64.wrap (v9 + 1)))
 else ((subM a0 v9 (IntKind.i64.wrap (v9 + 1))).bind fun x20 =>
 (R13_Has F x20 a1).bind fun x21 =>
 bif x21 then (some (0, ([] : (List api_Term)), false))
 else ((idx a0 v9).bind fun x23 =>
 (appM 24 v7 ([x23] : List api_Term)).bind fun x25 =>
 R13_Split_L0 F a0 a1 x1 K1 m x25 v8 (IntKind.i64.wrap (v9 + 1))))) fun K3 =>
 bif ((x1.1.length : Int) == 1) then ((idx a0 v9).bind fun x16 =>
 (idx x1.1 0).bind fun x17 =>
 K3 (x16.Exps.1 == x17.Exps.1))
 else (K3 false))
 else (K1 v7 v8)
def R13_Split (F : Nat) (a0 : (List api_Term)) (a1 : Int) : Option (Int × (List api_Term) × Bool) :=
 (R13_Var F a1).bind fun x1 =>
 joinM (fun (v4 : List api_Term) (v5 : Int) =>
 some (v5, v4, true)) fun K1 =>
 R13_Split_L0 F a0 a1 x1 K1 F ([] : List api_Term) 0 0
def slices_IndexFunc_api_Poly_api_Term_L0 (F : Nat) (a0 : (List api_Term)) (φ1 : api_Term → Option Bool) : Nat → Int → Option Int
 | 0, _ => none
 | m + 1, v1 =>
 bif (decide (v1 < (a0.length : Int))) then ((idx a0 v1).bind fun x4 =>
 (φ1 x4).bind fun x5 =>
 bif x5 then (some v1)
 else (slices_IndexFunc_api_Poly_api_Term_L0 F a0 φ1 m (IntKind.i64.wrap (v1 + 1))))
 else (some (-1))
def slices_IndexFunc_api_Poly_api_Term (F : Nat) (a0 : (List api_Term)) (φ1 : api_Term → Option Bool) : Option Int :=
 slices_IndexFunc_api_Poly_api_Term_L0 F a0 φ1 F 0
def slices_ContainsFunc_api_Poly_api_Term (F : Nat) (a0 : (List api_Term)) (φ1 : api_Term → Option Bool) : Option Bool :=
 (slices_IndexFunc_api_Poly_api_Term F a0 φ1).bind fun x1 =>
 some (decide (0 ≤ x1))
def poly_Has_1 (F : Nat) (a0 : api_Term) (a1 : Int) : Option Bool :=
 (idx a0.Exps.1 a1).bind fun x2 =>
 some (decide (0 < x2))
def poly_Has (F : Nat) (a0 : (List api_Term)) (a1 : Int) : Option Bool :=
 bif ((decide (a1 < 0)) || (decide (12 ≤ a1))) then (some false)
 else ((slices_ContainsFunc_api_Poly_api_Term F a0 (fun y0 => poly_Has_1 F y0 a1)).bind fun x3 =>
 some x3)
def L13_PolyTells (F : Nat) (a0 : (List api_Term)) (a1 : (List api_Term)) (a2 : Int) (a3 : Int) (a4 : (List Int)) : Option Bool :=
 joinM (fun (v1 : Bool) =>
 bif (v1 || (decide (50 < (a4.length : Int)))) then ((L13_awake F).bind fun x4 =>
 some x4)
 else ((poly_Num F a2).bind fun x5 =>
 (R13_Num F a2).bind fun x6 =>
 (poly_Var F a3).bind fun x7 =>
 (R13_Var F a3).bind fun x8 =>
 (poly_At F a1 a4).bind fun x9 =>
 (R13_At F a1 a4).bind fun x10 =>
 (poly_Split F a1 a3).bind fun x11 =>
 (R13_Split F a1 a3).bind fun x12 =>
 (poly_Fit F a0).bind fun x13 =>
 (R13_Fit F a0).bind fun x14 =>
 joinM (fun (v15 : Bool) =>
 joinM (fun (v17 : Bool) =>
 joinM (fun (v19 : Bool) =>
 joinM (fun (v21 : Bool) =>
 joinM (fun (v24 : Bool) =>
 some v24) fun K13 =>
 bif v21 then ((L13_awake F).bind fun x25 =>
 K13 x25)
 else (K13 false)) fun K12 =>
 bif (v19 && (x11.2.2 == x12.2.2)) then ((poly_Has F a1 a3).bind fun x22 =>
 (R13_Has F a1 a3).bind fun x23 =>
 K12 (x22 == x23))
 else (K12 false)) fun K10 =>
 bif ((((v17 && (x7.2 == x8.2)) && (x9.1 == x10.1)) && (x9.2 == x10.2)) && (x11.1 == x12.1)) then ((R13_Same F x11.2.1 x12.2.1).bind fun x20 =>
 K10 x20)
 else (K10 false)) fun K5 =>
 bif (v15 && (x5.2 == x6.2)) then ((R13_Same F x7.1 x8.1).bind fun x18 =>
 K5 x18)
 else (K5 false)) fun K3 =>
 bif (x13 == x14) then ((R13_Same F x5.1 x6.1).bind fun x16 =>
 K3 x16)
 else (K3 false))) fun K1 =>
 bif (decide (200 < (a0.length : Int))) then (K1 true)
 else ((R13_Fit F a1).bind fun x2 =>
 K1 (!x2))
def L13_product (F : Nat) (a0 : Int) (a1 : Int) : Option Int :=
 joinM (fun (v1 : Bool) =>
 bif v1 then (some (-1))
 else (some (IntKind.i64.wrap (a0 * a1)))) fun K1 =>
 bif (decide (0 < a0)) then ((quoM .i64 1099511627776 a0).bind fun x2 =>
 K1 (decide (x2 < a1)))
 else (K1 false)
def L13_PolyValues (F : Nat) (a0 : (List api_Term)) (a1 : (List api_Term)) (a2 : (List Int)) (a3 : Int) : Option Bool :=
 (L13_few F ([a0, a1] : List (List api_Term))).bind fun x2 =>
 bif ((!x2) || (decide (20 < (a2.length : Int)))) then ((L13_awake F).bind fun x4 =>
 some x4)
 else ((poly_At F a0 a2).bind fun x5 =>
 (poly_At F a1 a2).bind fun x6 =>
 (poly_Add F a0 a1).bind fun x7 =>
 (poly_Mul F a0 a1).bind fun x8 =>
 (poly_Max F a0 a1).bind fun x9 =>
 bif ((x5.2 != 0) || (x6.2 != 0)) then ((L13_awake F).bind fun x11 =>
 some x11)
 else ((poly_At F x7.1 a2).bind fun x12 =>
 bif (((x7.2 == 0) && (!((x12.2 == 0) == (decide ((IntKind.i64.wrap (x5.1 + x6.1)) ≤ 1099511627776))))) || (((x7.2 == 0) && (x12.2 == 0)) && (x12.1 != (IntKind.i64.wrap (x5.1 + x6.1))))) then (some false)
 else ((poly_At F x8.1 a2).bind fun x14 =>
 joinM (fun (v15 : Bool) =>
 bif v15 then (some false)
 else ((poly_At F x9.1 a2).bind fun x18 =>
 bif (((x9.2 == 0) && (x18.2 == 0)) && (decide (x18.1 < (if x5.1 < x6.1 then x6.1 else x5.1)))) then (some false)
 else ((poly_Split F a0 a3).bind fun x20 =>
 bif x20.2.2 then ((poly_Num F x20.1).bind fun x22 =>
 (poly_Var F a3).bind fun x23 =>
 (poly_Mul F x22.1 x23.1).bind fun x24 =>
 (poly_Add F x24.1 x20.2.1).bind fun x25 =>
 joinM (fun (v26 : Bool) =>
 joinM (fun (v29 : Bool) =>
 bif v29 then (some false)
 else ((L13_awake F).bind fun x32 =>
 some x32)) fun K14 =>
 bif v26 then (K14 true)
 else ((poly_Has F x20.2.1 a3).bind fun x30 =>
 K14 x30)) fun K11 =>
 bif (x23.2 == 0) then (joinM (fun (v27 : Bool) =>
 K11 v27) fun K13 =>
 bif ((x24.2 != 0) || (x25.2 != 0)) then (K13 true)
 else ((R13_Same F x25.1 a0).bind fun x28 =>
 K13 (!x28)))
 else (K11 false))
 else ((L13_awake F).bind fun x33 =>
 some x33)))) fun K8 =>
 bif ((x8.2 == 0) && (x14.2 == 0)) then ((L13_product F x5.1 x6.1).bind fun x16 =>
 K8 (x14.1 != x16))
 else (K8 false))))
end Go.Proofs.Ytfbkgjmpadknfaa.M
