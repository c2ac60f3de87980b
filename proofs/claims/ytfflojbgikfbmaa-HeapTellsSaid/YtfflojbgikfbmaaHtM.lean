/-
  Functions, as Lean functions that may have no answer.
-/
import Derived.Test.YtfflojbgikfbmaaHtT
import Derived.Test.YtfflojbgikfbmaaHpPkB
namespace Go.Proofs.Ytfflojbgikfbmaa.M
open Go.Proofs.YtfflojbgikfbmaaW.Ah Go.Proofs.Ytfflojbgikfbmaa
set_option linter.unusedVariables false
set_option linter.unusedSimpArgs false
set_option maxRecDepth 8000
def L16_tiny (F : Nat) (a0 : api_Heap) : Option Bool :=
 some (decide ((a0.Words.length : Int) ≤ 500))
def L16_awake (F : Nat) : Option Bool := some true
def heap_can (F : Nat) (a0 : api_Head) : Option Bool :=
 bif (a0.Kind == 0) then (some ((((decide (0 ≤ a0.Tag)) && (decide (a0.Tag ≤ 15))) && (decide (0 < a0.Count))) && (decide (a0.Count ≤ 6))))
 else (bif (a0.Kind == 1) then (some (((a0.Tag == 0) && (decide (0 ≤ a0.Count))) && (decide (a0.Count ≤ 64))))
 else (some false))
def heap_Head (F : Nat) (a0 : api_Head) : Option (Int × Bool) :=
 (heap_can F a0).bind fun x2 =>
 bif (!x2) then (some (0, false))
 else (some ((IntKind.u64.wrap (borI .i64 (borI .i64 (IntKind.i64.wrap (a0.Kind * 65536)) (IntKind.i64.wrap (a0.Tag * 256))) a0.Count)), true))
def R16_can (F : Nat) (a0 : api_Head) : Option Bool :=
 bif (a0.Kind == 1) then (some (((a0.Tag == 0) && (decide (0 ≤ a0.Count))) && (decide (a0.Count ≤ 64))))
 else (some (((((a0.Kind == 0) && (decide (0 ≤ a0.Tag))) && (decide (a0.Tag ≤ 15))) && (decide (1 ≤ a0.Count))) && (decide (a0.Count ≤ 6))))
def R16_Head (F : Nat) (a0 : api_Head) : Option (Int × Bool) :=
 (R16_can F a0).bind fun x2 =>
 bif (!x2) then (some (0, false))
 else (some ((IntKind.u64.wrap ((IntKind.u64.wrap ((IntKind.u64.wrap a0.Count) + (IntKind.u64.wrap (256 * (IntKind.u64.wrap a0.Tag))))) + (IntKind.u64.wrap (65536 * (IntKind.u64.wrap a0.Kind))))), true))
def heap_Read (F : Nat) (a0 : Int) : Option (api_Head × Bool) :=
 (heap_Head F (api_Head.mk (IntKind.i64.wrap (bandI .u64 (IntKind.u64.wrap (a0.tdiv 65536)) 15)) (IntKind.i64.wrap (bandI .u64 (IntKind.u64.wrap (a0.tdiv 256)) 255)) (IntKind.i64.wrap (bandI .u64 a0 255)))).bind fun x3 =>
 bif ((!x3.2) || (x3.1 != a0)) then (some ((api_Head.mk 0 0 0), false))
 else (some ((api_Head.mk (IntKind.i64.wrap (bandI .u64 (IntKind.u64.wrap (a0.tdiv 65536)) 15)) (IntKind.i64.wrap (bandI .u64 (IntKind.u64.wrap (a0.tdiv 256)) 255)) (IntKind.i64.wrap (bandI .u64 a0 255))), true))
def R16_Read (F : Nat) (a0 : Int) : Option (api_Head × Bool) :=
 bif (decide (1048576 ≤ a0)) then (some ((api_Head.mk 0 0 0), false))
 else ((R16_can F (api_Head.mk (IntKind.i64.wrap (IntKind.u64.wrap (a0.tdiv 65536))) (IntKind.i64.wrap ((IntKind.u64.wrap (a0.tdiv 256)).tmod 256)) (IntKind.i64.wrap (a0.tmod 256)))).bind fun x4 =>
 bif (!x4) then (some ((api_Head.mk 0 0 0), false))
 else (some ((api_Head.mk (IntKind.i64.wrap (IntKind.u64.wrap (a0.tdiv 65536))) (IntKind.i64.wrap ((IntKind.u64.wrap (a0.tdiv 256)).tmod 256)) (IntKind.i64.wrap (a0.tmod 256))), true)))
def heap_Pack (F : Nat) (a0 : List Int) : Option (List Int) := some (Go.Proofs.Ytfflojbgikfbmaa.packL a0)

def R16_Pack_L0 (F : Nat) (a0 : (List Int)) : Nat → Int → List Int → Option (List Int)
 | 0, _, _ => none
 | m + 1, v4, v5 =>
 bif (decide (v4 < (a0.length : Int))) then ((idx v5 (IntKind.i64.wrap (v4.tdiv 8))).bind fun x9 =>
 (idx a0 v4).bind fun x10 =>
 (shlM .u64 (IntKind.u64.wrap x10) (IntKind.u64.wrap (IntKind.i64.wrap (8 * (v4.tmod 8))))).bind fun x11 =>
 R16_Pack_L0 F a0 m (IntKind.i64.wrap (v4 + 1)) (v5.set (IntKind.i64.wrap (v4.tdiv 8)).toNat (IntKind.u64.wrap (x9 + x11))))
 else (some v5)
def R16_Pack (F : Nat) (a0 : (List Int)) : Option (List Int) :=
 bif (decide (64 < (a0.length : Int))) then (some ([] : (List Int)))
 else ((makM 8 0 (IntKind.i64.wrap ((IntKind.i64.wrap ((a0.length : Int) + 7)).tdiv 8))).bind fun x2 =>
 R16_Pack_L0 F a0 F 0 x2)
def heap_body (F : Nat) (a0 : api_Head) : Option Int :=
 bif (a0.Kind == 1) then (some (shrI .i64 (IntKind.i64.wrap (a0.Count + 7)) 3))
 else (some a0.Count)
def heap_Size (F : Nat) (a0 : api_Head) : Option Int :=
 (heap_can F a0).bind fun x2 =>
 bif (!x2) then (some 0)
 else ((heap_body F a0).bind fun x4 =>
 some (IntKind.i64.wrap (2 + x4)))
def R16_Size (F : Nat) (a0 : api_Head) : Option Int :=
 (R16_can F a0).bind fun x2 =>
 bif (!x2) then (some 0)
 else (bif (a0.Kind == 1) then (some (IntKind.i64.wrap (2 + (IntKind.i64.wrap ((IntKind.i64.wrap (a0.Count + 7)).tdiv 8)))))
 else (some (IntKind.i64.wrap (2 + a0.Count))))
def heap_begin (F : Nat) (a0 : api_Heap) : Option Int :=
 bif a0.Up then (some (IntKind.i64.wrap (a0.Half + 1)))
 else (some 1)
def word_Ptr (F : Nat) (a0 : Int) : Option Int :=
 some (shlI .u64 (IntKind.u64.wrap a0) 1)
def heap_Fit_L0 (F : Nat) (a0 : api_Heap) (K5 : Bool → Option Bool) : Nat → Int → Bool → Option Bool
 | 0, _, _ => none
 | m + 1, v8, v9 =>
 bif (decide (v8 < a0.Next)) then ((idx a0.Words v8).bind fun x13 =>
 (heap_Read F x13).bind fun x14 =>
 joinM (fun (v16 : Bool) =>
 joinM (fun (v18 : Bool) =>
 bif v18 then (some false)
 else ((heap_Size F x14.1).bind fun x22 =>
 heap_Fit_L0 F a0 K5 m (IntKind.i64.wrap (v8 + x22)) (v9 || (v8 == a0.Scan)))) fun K8 =>
 bif v16 then (K8 true)
 else ((idx a0.Words (IntKind.i64.wrap (v8 + 1))).bind fun x19 =>
 (word_Ptr F (IntKind.u32.wrap v8)).bind fun x20 =>
 K8 (x19 != x20))) fun K7 =>
 bif (!x14.2) then (K7 true)
 else ((heap_Size F x14.1).bind fun x17 =>
 K7 (decide (a0.Next < (IntKind.i64.wrap (v8 + x17))))))
 else (K5 v9)
def heap_Fit (F : Nat) (a0 : api_Heap) : Option Bool :=
 joinM (fun (v2 : Bool) =>
 bif v2 then (some false)
 else ((heap_begin F a0).bind fun x5 =>
 bif ((decide (a0.Next < x5)) || (decide (a0.Half < (IntKind.i64.wrap (a0.Next - x5))))) then (some false)
 else (joinM (fun (v7 : Bool) =>
 some ((a0.On && (v7 || (a0.Scan == a0.Next))) || ((!a0.On) && (a0.Scan == 0)))) fun K5 =>
 heap_Fit_L0 F a0 K5 F x5 false))) fun K3 =>
 bif (((decide (a0.Half < 16)) || (decide (16384 < a0.Half))) || ((a0.Words.length : Int) != (IntKind.i64.wrap ((IntKind.i64.wrap (2 * a0.Half)) + 1)))) then (K3 true)
 else ((idx a0.Words 0).bind fun x3 =>
 K3 (x3 != 0))
def R16_first (F : Nat) (a0 : api_Heap) : Option Int :=
 bif a0.Up then (some (IntKind.i64.wrap (a0.Half + 1)))
 else (some 1)
def R01_Ptr (F : Nat) (a0 : Int) : Option Int :=
 some (IntKind.u64.wrap (2 * (IntKind.u64.wrap a0)))
def R16_Fit_L0 (F : Nat) (a0 : api_Heap) (K5 : Bool → Option Bool) : Nat → Bool → Int → Option Bool
 | 0, _, _ => none
 | m + 1, v8, v9 =>
 bif (decide (v9 < a0.Next)) then ((idx a0.Words v9).bind fun x13 =>
 (R16_Read F x13).bind fun x14 =>
 joinM (fun (v16 : Bool) =>
 joinM (fun (v18 : Bool) =>
 bif v18 then (some false)
 else ((R16_Size F x14.1).bind fun x22 =>
 R16_Fit_L0 F a0 K5 m (v8 || (a0.Scan == v9)) (IntKind.i64.wrap (v9 + x22)))) fun K8 =>
 bif v16 then (K8 true)
 else ((idx a0.Words (IntKind.i64.wrap (v9 + 1))).bind fun x19 =>
 (R01_Ptr F (IntKind.u32.wrap v9)).bind fun x20 =>
 K8 (x19 != x20))) fun K7 =>
 bif (!x14.2) then (K7 true)
 else ((R16_Size F x14.1).bind fun x17 =>
 K7 (decide ((IntKind.i64.wrap (a0.Next - v9)) < x17))))
 else (K5 v8)
def R16_Fit (F : Nat) (a0 : api_Heap) : Option Bool :=
 joinM (fun (v2 : Bool) =>
 bif v2 then (some false)
 else ((R16_first F a0).bind fun x5 =>
 bif ((decide (a0.Next < x5)) || (decide ((IntKind.i64.wrap (x5 + a0.Half)) < a0.Next))) then (some false)
 else (joinM (fun (v7 : Bool) =>
 bif (!a0.On) then (some (a0.Scan == 0))
 else (some v7)) fun K5 =>
 R16_Fit_L0 F a0 K5 F (a0.Scan == a0.Next) x5))) fun K3 =>
 bif (((decide (a0.Half < 16)) || (decide (16384 < a0.Half))) || ((a0.Words.length : Int) != (IntKind.i64.wrap ((IntKind.i64.wrap (2 * a0.Half)) + 1)))) then (K3 true)
 else ((idx a0.Words 0).bind fun x3 =>
 K3 (x3 != 0))
def L16_HeapTells_L0 (F : Nat) (x13 : (List Int)) (x14 : (List Int)) (K2 : Unit → Option Bool) : Nat → Int → Option Bool
 | 0, _ => none
 | m + 1, v16 =>
 bif (decide (v16 < (x13.length : Int))) then ((idx x13 v16).bind fun x19 =>
 (idx x14 v16).bind fun x20 =>
 bif (x19 != x20) then (some false)
 else (L16_HeapTells_L0 F x13 x14 K2 m (IntKind.i64.wrap (v16 + 1))))
 else (K2 ())
def L16_HeapTells (F : Nat) (a0 : api_Head) (a1 : Int) (a2 : (List Int)) (a3 : api_Heap) : Option Bool :=
 joinM (fun (v3 : Bool) =>
 bif v3 then ((L16_awake F).bind fun x6 =>
 some x6)
 else ((heap_Head F a0).bind fun x7 =>
 (R16_Head F a0).bind fun x8 =>
 (heap_Read F a1).bind fun x9 =>
 (R16_Read F a1).bind fun x11 =>
 (heap_Pack F a2).bind fun x13 =>
 (R16_Pack F a2).bind fun x14 =>
 bif ((x13.length : Int) != (x14.length : Int)) then (some false)
 else (joinM (fun (_ : Unit) =>
 joinM (fun (v22 : Bool) =>
 joinM (fun (v25 : Bool) =>
 joinM (fun (v28 : Bool) =>
 some v28) fun K9 =>
 bif v25 then ((L16_awake F).bind fun x29 =>
 K9 x29)
 else (K9 false)) fun K8 =>
 bif v22 then ((heap_Fit F a3).bind fun x26 =>
 (R16_Fit F a3).bind fun x27 =>
 K8 (x26 == x27))
 else (K8 false)) fun K7 =>
 bif ((((x7.1 == x8.1) && (x7.2 == x8.2)) && ((x9.1.Kind == x11.1.Kind) && ((x9.1.Tag == x11.1.Tag) && ((x9.1.Count == x11.1.Count))))) && (x9.2 == x11.2)) then ((heap_Size F a0).bind fun x23 =>
 (R16_Size F a0).bind fun x24 =>
 K7 (x23 == x24))
 else (K7 false)) fun K2 =>
 L16_HeapTells_L0 F x13 x14 K2 F 0))) fun K1 =>
 bif (decide (300 < (a2.length : Int))) then (K1 true)
 else ((L16_tiny F a3).bind fun x4 =>
 K1 (!x4))
end Go.Proofs.Ytfflojbgikfbmaa.M
