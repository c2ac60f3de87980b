/-
  Functions, as Lean functions that may have no answer.
-/
import Derived.Test.YtfflojbgikfbmaaHbT
namespace Go.Proofs.Ytfflojbgikfbmaa.M
open Go.Proofs.YtfflojbgikfbmaaW.Ah Go.Proofs.Ytfflojbgikfbmaa
set_option linter.unusedVariables false
set_option linter.unusedSimpArgs false
set_option maxRecDepth 8000
def heap_begin (F : Nat) (a0 : api_Heap) : Option Int :=
 bif a0.Up then (some (IntKind.i64.wrap (a0.Half + 1)))
 else (some 1)
def heap_can (F : Nat) (a0 : api_Head) : Option Bool :=
 bif (a0.Kind == 0) then (some ((((decide (0 ≤ a0.Tag)) && (decide (a0.Tag ≤ 15))) && (decide (0 < a0.Count))) && (decide (a0.Count ≤ 6))))
 else (bif (a0.Kind == 1) then (some (((a0.Tag == 0) && (decide (0 ≤ a0.Count))) && (decide (a0.Count ≤ 64))))
 else (some false))
def heap_Head (F : Nat) (a0 : api_Head) : Option (Int × Bool) :=
 (heap_can F a0).bind fun x2 =>
 bif (!x2) then (some (0, false))
 else (some ((IntKind.u64.wrap (borI .i64 (borI .i64 (IntKind.i64.wrap (a0.Kind * 65536)) (IntKind.i64.wrap (a0.Tag * 256))) a0.Count)), true))
def heap_Read (F : Nat) (a0 : Int) : Option (api_Head × Bool) :=
 (heap_Head F (api_Head.mk (IntKind.i64.wrap (bandI .u64 (IntKind.u64.wrap (a0.tdiv 65536)) 15)) (IntKind.i64.wrap (bandI .u64 (IntKind.u64.wrap (a0.tdiv 256)) 255)) (IntKind.i64.wrap (bandI .u64 a0 255)))).bind fun x3 =>
 bif ((!x3.2) || (x3.1 != a0)) then (some ((api_Head.mk 0 0 0), false))
 else (some ((api_Head.mk (IntKind.i64.wrap (bandI .u64 (IntKind.u64.wrap (a0.tdiv 65536)) 15)) (IntKind.i64.wrap (bandI .u64 (IntKind.u64.wrap (a0.tdiv 256)) 255)) (IntKind.i64.wrap (bandI .u64 a0 255))), true))
def heap_body (F : Nat) (a0 : api_Head) : Option Int :=
 bif (a0.Kind == 1) then (some (shrI .i64 (IntKind.i64.wrap (a0.Count + 7)) 3))
 else (some a0.Count)
def heap_Size (F : Nat) (a0 : api_Head) : Option Int :=
 (heap_can F a0).bind fun x2 =>
 bif (!x2) then (some 0)
 else ((heap_body F a0).bind fun x4 =>
 some (IntKind.i64.wrap (2 + x4)))
def word_Ptr (F : Nat) (a0 : Int) : Option Int :=
 some (shlI .u64 (IntKind.u64.wrap a0) 1)
def heap_Fit_L0 (F : Nat) (a0 : api_Heap) (K5 : Bool → Option Bool) : Nat → Int → Bool → Option Bool
 | 0, _, _ => none
 | m + 1, v8, v9 =>
 bif (decide (v8 < a0.Next)) then ((idx a0.Words v8).bind fun x13 =>
 (heap_Read F x13).bind fun x14 =>
 joinM (fun (v16 : Bool) =>
 joinM (fun (v18 : Bool) =>
 bif v18 then (some false)
 else ((heap_Size F x14.1).bind fun x22 =>
 heap_Fit_L0 F a0 K5 m (IntKind.i64.wrap (v8 + x22)) (v9 || (v8 == a0.Scan)))) fun K8 =>
 bif v16 then (K8 true)
 else ((idx a0.Words (IntKind.i64.wrap (v8 + 1))).bind fun x19 =>
 (word_Ptr F (IntKind.u32.wrap v8)).bind fun x20 =>
 K8 (x19 != x20))) fun K7 =>
 bif (!x14.2) then (K7 true)
 else ((heap_Size F x14.1).bind fun x17 =>
 K7 (decide (a0.Next < (IntKind.i64.wrap (v8 + x17))))))
 else (K5 v9)
def heap_Fit (F : Nat) (a0 : api_Heap) : Option Bool :=
 joinM (fun (v2 : Bool) =>
 bif v2 then (some false)
 else ((heap_begin F a0).bind fun x5 =>
 bif ((decide (a0.Next < x5)) || (decide (a0.Half < (IntKind.i64.wrap (a0.Next - x5))))) then (some false)
 else (joinM (fun (v7 : Bool) =>
 some ((a0.On && (v7 || (a0.Scan == a0.Next))) || ((!a0.On) && (a0.Scan == 0)))) fun K5 =>
 heap_Fit_L0 F a0 K5 F x5 false))) fun K3 =>
 bif (((decide (a0.Half < 16)) || (decide (16384 < a0.Half))) || ((a0.Words.length : Int) != (IntKind.i64.wrap ((IntKind.i64.wrap (2 * a0.Half)) + 1)))) then (K3 true)
 else ((idx a0.Words 0).bind fun x3 =>
 K3 (x3 != 0))
def heap_unpacked_L0 (F : Nat) (a0 : (List Int)) (x1 : (List Int)) : Nat → Int → List Int → Option (List Int)
 | 0, _, _ => none
 | m + 1, v3, v4 =>
 bif (decide (v3 < (x1.length : Int))) then ((idx a0 (IntKind.i64.wrap (v3.tdiv 8))).bind fun x8 =>
 (shrM .u64 x8 (IntKind.i64.wrap (8 * (v3.tmod 8)))).bind fun x9 =>
 (idx v4 v3).bind fun x10 =>
 heap_unpacked_L0 F a0 x1 m (IntKind.i64.wrap (v3 + 1)) (v4.set v3.toNat (IntKind.u8.wrap x9)))
 else (some v4)
def heap_unpacked (F : Nat) (a0 : (List Int)) (a1 : Int) : Option (List Int) :=
 (makM 1 0 a1).bind fun x1 =>
 heap_unpacked_L0 F a0 x1 F 0 x1
def slices_Clone_uint64_uint64 (F : Nat) (a0 : (List Int)) : Option (List Int) :=
 appM 8 [] a0
end Go.Proofs.Ytfflojbgikfbmaa.M
