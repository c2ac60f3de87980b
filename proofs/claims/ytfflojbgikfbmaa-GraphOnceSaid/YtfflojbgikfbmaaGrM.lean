/-
  Functions, as Lean functions that may have no answer.
-/
import Derived.Test.YtfflojbgikfbmaaGrT
namespace Go.Proofs.Ytfflojbgikfbmaa.M
open Go.Proofs.YtfflojbgikfbmaaW.Ah Go.Proofs.Ytfflojbgikfbmaa
set_option linter.unusedVariables false
set_option linter.unusedSimpArgs false
set_option maxRecDepth 8000
def L17_few_L0 (F : Nat) (a0 : (List api_Node)) : Nat → Int → Int → Option Bool
 | 0, _, _ => none
 | m + 1, v1, v2 =>
 bif (decide (v2 < (a0.length : Int))) then ((idx a0 v2).bind fun x6 =>
 bif (decide (600 < (IntKind.i64.wrap (v1 + (IntKind.i64.wrap ((IntKind.i64.wrap (1 + (x6.Kids.length : Int))) + (x6.Bytes.length : Int))))))) then (some false)
 else (L17_few_L0 F a0 m (IntKind.i64.wrap (v1 + (IntKind.i64.wrap ((IntKind.i64.wrap (1 + (x6.Kids.length : Int))) + (x6.Bytes.length : Int))))) (IntKind.i64.wrap (v2 + 1))))
 else (some true)
def L17_few (F : Nat) (a0 : (List api_Node)) : Option Bool :=
 L17_few_L0 F a0 F 0 0
def slices_Equal_api_Edge_api_Edge_L0 (F : Nat) (a0 : (List api_Edge)) (a1 : (List api_Edge)) : Nat → Int → Option Bool
 | 0, _ => none
 | m + 1, v2 =>
 bif (decide (v2 < (a0.length : Int))) then ((idx a0 v2).bind fun x5 =>
 (idx a1 v2).bind fun x6 =>
 bif (!((x5.Is == x6.Is) && ((x5.Node == x6.Node) && ((x5.Num == x6.Num))))) then (some false)
 else (slices_Equal_api_Edge_api_Edge_L0 F a0 a1 m (IntKind.i64.wrap (v2 + 1))))
 else (some true)
def slices_Equal_api_Edge_api_Edge (F : Nat) (a0 : (List api_Edge)) (a1 : (List api_Edge)) : Option Bool :=
 bif ((a0.length : Int) != (a1.length : Int)) then (some false)
 else (slices_Equal_api_Edge_api_Edge_L0 F a0 a1 F 0)
def slices_EqualFunc_api_Node_api_Node_api_Node_api_Node_L0 (F : Nat) (a0 : (List api_Node)) (a1 : (List api_Node)) (φ2 : api_Node → api_Node → Option Bool) : Nat → Int → Option Bool
 | 0, _ => none
 | m + 1, v2 =>
 bif (decide (v2 < (a0.length : Int))) then ((idx a0 v2).bind fun x5 =>
 (idx a1 v2).bind fun x7 =>
 (φ2 x5 x7).bind fun x9 =>
 bif (!x9) then (some false)
 else (slices_EqualFunc_api_Node_api_Node_api_Node_api_Node_L0 F a0 a1 φ2 m (IntKind.i64.wrap (v2 + 1))))
 else (some true)
def slices_EqualFunc_api_Node_api_Node_api_Node_api_Node (F : Nat) (a0 : (List api_Node)) (a1 : (List api_Node)) (φ2 : api_Node → api_Node → Option Bool) : Option Bool :=
 bif ((a0.length : Int) != (a1.length : Int)) then (some false)
 else (slices_EqualFunc_api_Node_api_Node_api_Node_api_Node_L0 F a0 a1 φ2 F 0)
def slices_Equal_byte_byte_L0 (F : Nat) (a0 : (List Int)) (a1 : (List Int)) : Nat → Int → Option Bool
 | 0, _ => none
 | m + 1, v2 =>
 bif (decide (v2 < (a0.length : Int))) then ((idx a0 v2).bind fun x5 =>
 (idx a1 v2).bind fun x6 =>
 bif (x5 != x6) then (some false)
 else (slices_Equal_byte_byte_L0 F a0 a1 m (IntKind.i64.wrap (v2 + 1))))
 else (some true)
def slices_Equal_byte_byte (F : Nat) (a0 : (List Int)) (a1 : (List Int)) : Option Bool :=
 bif ((a0.length : Int) != (a1.length : Int)) then (some false)
 else (slices_Equal_byte_byte_L0 F a0 a1 F 0)
def graph_Same_1 (F : Nat) (a0 : api_Node) (a1 : api_Node) : Option Bool :=
 joinM (fun (v3 : Bool) =>
 joinM (fun (v5 : Bool) =>
 some v5) fun K2 =>
 bif v3 then ((slices_Equal_api_Edge_api_Edge F a0.Kids a1.Kids).bind fun x6 =>
 K2 x6)
 else (K2 false)) fun K1 =>
 bif ((a0.Head.Kind == a1.Head.Kind) && ((a0.Head.Tag == a1.Head.Tag) && ((a0.Head.Count == a1.Head.Count)))) then ((slices_Equal_byte_byte F a0.Bytes a1.Bytes).bind fun x4 =>
 K1 x4)
 else (K1 false)
def graph_Same (F : Nat) (a0 : (List api_Node)) (a1 : (List api_Node)) (a2 : (List api_Edge)) (a3 : (List api_Edge)) : Option Bool :=
 (slices_Equal_api_Edge_api_Edge F a2 a3).bind fun x1 =>
 joinM (fun (v2 : Bool) =>
 some v2) fun K1 =>
 bif x1 then ((slices_EqualFunc_api_Node_api_Node_api_Node_api_Node F a0 a1 (fun y0 y1 => graph_Same_1 F y0 y1)).bind fun x3 =>
 K1 x3)
 else (K1 false)
def R17_edges_L0 (F : Nat) (a0 : (List api_Edge)) (a1 : (List api_Edge)) : Nat → Int → Option Bool
 | 0, _ => none
 | m + 1, v2 =>
 bif (decide (v2 < (a0.length : Int))) then ((idx a0 v2).bind fun x5 =>
 (idx a1 v2).bind fun x6 =>
 bif (!((x5.Is == x6.Is) && ((x5.Node == x6.Node) && ((x5.Num == x6.Num))))) then (some false)
 else (R17_edges_L0 F a0 a1 m (IntKind.i64.wrap (v2 + 1))))
 else (some true)
def R17_edges (F : Nat) (a0 : (List api_Edge)) (a1 : (List api_Edge)) : Option Bool :=
 bif ((a0.length : Int) != (a1.length : Int)) then (some false)
 else (R17_edges_L0 F a0 a1 F 0)
def R17_Same_L0 (F : Nat) (a0 : (List api_Node)) (a1 : (List api_Node)) : Nat → Int → Option Bool
 | 0, _ => none
 | m + 1, v4 =>
 bif (decide (v4 < (a0.length : Int))) then ((idx a0 v4).bind fun x7 =>
 (idx a1 v4).bind fun x8 =>
 joinM (fun (v9 : Bool) =>
 joinM (fun (v12 : Bool) =>
 bif v12 then (some false)
 else (R17_Same_L0 F a0 a1 m (IntKind.i64.wrap (v4 + 1)))) fun K4 =>
 bif v9 then (K4 true)
 else ((idx a0 v4).bind fun x13 =>
 (idx a1 v4).bind fun x14 =>
 (R17_edges F x13.Kids x14.Kids).bind fun x15 =>
 K4 (!x15))) fun K3 =>
 bif (!((x7.Head.Kind == x8.Head.Kind) && ((x7.Head.Tag == x8.Head.Tag) && ((x7.Head.Count == x8.Head.Count))))) then (K3 true)
 else ((idx a0 v4).bind fun x10 =>
 (idx a1 v4).bind fun x11 =>
 K3 (!((textOf x10.Bytes).toList == (textOf x11.Bytes).toList))))
 else (some true)
def R17_Same (F : Nat) (a0 : (List api_Node)) (a1 : (List api_Node)) (a2 : (List api_Edge)) (a3 : (List api_Edge)) : Option Bool :=
 joinM (fun (v1 : Bool) =>
 bif v1 then (some false)
 else (R17_Same_L0 F a0 a1 F 0)) fun K1 =>
 bif ((a0.length : Int) != (a1.length : Int)) then (K1 true)
 else ((R17_edges F a2 a3).bind fun x2 =>
 K1 (!x2))
def heap_can (F : Nat) (a0 : api_Head) : Option Bool :=
 bif (a0.Kind == 0) then (some ((((decide (0 ≤ a0.Tag)) && (decide (a0.Tag ≤ 15))) && (decide (0 < a0.Count))) && (decide (a0.Count ≤ 6))))
 else (bif (a0.Kind == 1) then (some (((a0.Tag == 0) && (decide (0 ≤ a0.Count))) && (decide (a0.Count ≤ 64))))
 else (some false))
def heap_body (F : Nat) (a0 : api_Head) : Option Int :=
 bif (a0.Kind == 1) then (some (shrI .i64 (IntKind.i64.wrap (a0.Count + 7)) 3))
 else (some a0.Count)
def heap_Size (F : Nat) (a0 : api_Head) : Option Int :=
 (heap_can F a0).bind fun x2 =>
 bif (!x2) then (some 0)
 else ((heap_body F a0).bind fun x4 =>
 some (IntKind.i64.wrap (2 + x4)))
def graph_Words_L0 (F : Nat) (a0 : (List api_Node)) : Nat → Int → Int → Option Int
 | 0, _, _ => none
 | m + 1, v1, v2 =>
 bif (decide (v2 < (a0.length : Int))) then ((idx a0 v2).bind fun x6 =>
 (heap_Size F x6.Head).bind fun x8 =>
 graph_Words_L0 F a0 m (IntKind.i64.wrap (v1 + x8)) (IntKind.i64.wrap (v2 + 1)))
 else (some v1)
def graph_Words (F : Nat) (a0 : (List api_Node)) : Option Int :=
 graph_Words_L0 F a0 F 0 0
def R16_can (F : Nat) (a0 : api_Head) : Option Bool :=
 bif (a0.Kind == 1) then (some (((a0.Tag == 0) && (decide (0 ≤ a0.Count))) && (decide (a0.Count ≤ 64))))
 else (some (((((a0.Kind == 0) && (decide (0 ≤ a0.Tag))) && (decide (a0.Tag ≤ 15))) && (decide (1 ≤ a0.Count))) && (decide (a0.Count ≤ 6))))
def R16_Size (F : Nat) (a0 : api_Head) : Option Int :=
 (R16_can F a0).bind fun x2 =>
 bif (!x2) then (some 0)
 else (bif (a0.Kind == 1) then (some (IntKind.i64.wrap (2 + (IntKind.i64.wrap ((IntKind.i64.wrap (a0.Count + 7)).tdiv 8)))))
 else (some (IntKind.i64.wrap (2 + a0.Count))))
def R17_Words_L0 (F : Nat) (a0 : (List api_Node)) : Nat → Int → Int → Option Int
 | 0, _, _ => none
 | m + 1, v1, v2 =>
 bif (decide (v2 < (a0.length : Int))) then ((idx a0 v2).bind fun x6 =>
 (R16_Size F x6.Head).bind fun x7 =>
 R17_Words_L0 F a0 m (IntKind.i64.wrap (v1 + x7)) (IntKind.i64.wrap (v2 + 1)))
 else (some v1)
def R17_Words (F : Nat) (a0 : (List api_Node)) : Option Int :=
 R17_Words_L0 F a0 F 0 0
def graph_whole (F : Nat) (a0 : api_Node) : Option Bool :=
 (heap_Size F a0.Head).bind fun x2 =>
 bif (x2 == 0) then (some false)
 else (bif (a0.Head.Kind == 1) then (some (((a0.Kids.length : Int) == 0) && ((a0.Bytes.length : Int) == a0.Head.Count)))
 else (some (((a0.Bytes.length : Int) == 0) && ((a0.Kids.length : Int) == a0.Head.Count))))
def R17_node (F : Nat) (a0 : api_Node) : Option Bool :=
 (R16_Size F a0.Head).bind fun x2 =>
 bif (x2 == 0) then (some false)
 else (bif (a0.Head.Kind == 1) then (some (((a0.Bytes.length : Int) == a0.Head.Count) && ((a0.Kids.length : Int) == 0)))
 else (some (((a0.Bytes.length : Int) == 0) && ((a0.Kids.length : Int) == a0.Head.Count))))
def R17_edge (F : Nat) (a0 : (List api_Node)) (a1 : api_Edge) : Option Bool :=
 bif a1.Is then (joinM (fun (v3 : Bool) =>
 some v3) fun K3 =>
 bif (((a1.Num == 0) && (decide (0 ≤ a1.Node))) && (decide (a1.Node < (a0.length : Int)))) then ((idx a0 a1.Node).bind fun x4 =>
 (R17_node F x4).bind fun x5 =>
 K3 x5)
 else (K3 false))
 else (some (((a1.Node == 0) && (decide ((-4611686018427387904) ≤ a1.Num))) && (decide (a1.Num < 4611686018427387904))))
def R17_place_L0 (F : Nat) (a0 : (List Int)) (a1 : Int) : Nat → Int → Option Int
 | 0, _ => none
 | m + 1, v1 =>
 bif (decide (v1 < (a0.length : Int))) then ((idx a0 v1).bind fun x4 =>
 bif (x4 == a1) then (some v1)
 else (R17_place_L0 F a0 a1 m (IntKind.i64.wrap (v1 + 1))))
 else (some (-1))
def R17_place (F : Nat) (a0 : (List Int)) (a1 : Int) : Option Int :=
 R17_place_L0 F a0 a1 F 0
def word_wrapped (F : Nat) (a0 : Int) : Option Int :=
 some (shrI .i64 (shlI .i64 a0 1) 1)
def word_Wrap (F : Nat) (a0 : Int) : Option Int :=
 (word_wrapped F a0).bind fun x1 =>
 some x1
def slices_Clone_byte_byte (F : Nat) (a0 : (List Int)) : Option (List Int) :=
 appM 1 [] a0
def L17_awake (F : Nat) : Option Bool := some true
end Go.Proofs.Ytfflojbgikfbmaa.M
