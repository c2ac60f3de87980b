/-
  Functions, as Lean functions that may have no answer.
-/
import Derived.Test.YtfflojbgikfbmaaHrT
namespace Go.Proofs.Ytfflojbgikfbmaa.M
open Go.Proofs.YtfflojbgikfbmaaW.Ah Go.Proofs.Ytfflojbgikfbmaa
set_option linter.unusedVariables false
set_option linter.unusedSimpArgs false
set_option maxRecDepth 8000
def R01_At (F : Nat) (a0 : Int) : Option (Int × Bool) :=
 bif ((((a0.tmod 2) == 1) || (a0 == 0)) || (decide (8589934592 ≤ a0))) then (some (0, false))
 else (some ((IntKind.u32.wrap (IntKind.u64.wrap (a0.tdiv 2))), true))
def R16_Heap_left (F : Nat) (a0 : handloomref16_Heap) (a1 : Int) : Option (Int × Int) :=
 (R01_At F a1).bind fun x1 =>
 bif ((!x1.2) || (decide ((IntKind.i64.wrap (2 * a0.H.Half)) < (IntKind.i64.wrap x1.1)))) then (some (0, 0))
 else (bif (decide ((IntKind.i64.wrap x1.1) ≤ a0.H.Half)) then (some ((IntKind.i64.wrap x1.1), (IntKind.i64.wrap ((IntKind.i64.wrap (a0.H.Half + 1)) - (IntKind.i64.wrap x1.1)))))
 else (some ((IntKind.i64.wrap x1.1), (IntKind.i64.wrap ((IntKind.i64.wrap ((IntKind.i64.wrap (2 * a0.H.Half)) + 1)) - (IntKind.i64.wrap x1.1))))))
def R16_can (F : Nat) (a0 : api_Head) : Option Bool :=
 bif (a0.Kind == 1) then (some (((a0.Tag == 0) && (decide (0 ≤ a0.Count))) && (decide (a0.Count ≤ 64))))
 else (some (((((a0.Kind == 0) && (decide (0 ≤ a0.Tag))) && (decide (a0.Tag ≤ 15))) && (decide (1 ≤ a0.Count))) && (decide (a0.Count ≤ 6))))
def R16_Read (F : Nat) (a0 : Int) : Option (api_Head × Bool) :=
 bif (decide (1048576 ≤ a0)) then (some ((api_Head.mk 0 0 0), false))
 else ((R16_can F (api_Head.mk (IntKind.i64.wrap (IntKind.u64.wrap (a0.tdiv 65536))) (IntKind.i64.wrap ((IntKind.u64.wrap (a0.tdiv 256)).tmod 256)) (IntKind.i64.wrap (a0.tmod 256)))).bind fun x4 =>
 bif (!x4) then (some ((api_Head.mk 0 0 0), false))
 else (some ((api_Head.mk (IntKind.i64.wrap (IntKind.u64.wrap (a0.tdiv 65536))) (IntKind.i64.wrap ((IntKind.u64.wrap (a0.tdiv 256)).tmod 256)) (IntKind.i64.wrap (a0.tmod 256))), true)))
def R16_Size (F : Nat) (a0 : api_Head) : Option Int :=
 (R16_can F a0).bind fun x2 =>
 bif (!x2) then (some 0)
 else (bif (a0.Kind == 1) then (some (IntKind.i64.wrap (2 + (IntKind.i64.wrap ((IntKind.i64.wrap (a0.Count + 7)).tdiv 8)))))
 else (some (IntKind.i64.wrap (2 + a0.Count))))
def R16_Heap_record (F : Nat) (a0 : handloomref16_Heap) (a1 : Int) : Option (api_Head × Int × Bool) :=
 (R16_Heap_left F a0 a1).bind fun x2 =>
 bif (decide (x2.2 < 2)) then (some ((api_Head.mk 0 0 0), 0, false))
 else ((idx a0.H.Words (IntKind.i64.wrap (x2.1 + 1))).bind fun x4 =>
 (R16_Heap_left F a0 x4).bind fun x5 =>
 bif (decide (x5.2 < 2)) then (some ((api_Head.mk 0 0 0), 0, false))
 else ((idx a0.H.Words x5.1).bind fun x7 =>
 (R16_Read F x7).bind fun x8 =>
 joinM (fun (v10 : Bool) =>
 bif v10 then (some ((api_Head.mk 0 0 0), 0, false))
 else (some (x8.1, x5.1, true))) fun K1 =>
 bif (!x8.2) then (K1 true)
 else ((R16_Size F x8.1).bind fun x11 =>
 K1 (decide (x5.2 < x11)))))
def R16_Heap_Look (F : Nat) (a0 : handloomref16_Heap) (a1 : Int) : Option (api_Head × Int) :=
 (R16_Heap_record F a0 a1).bind fun x2 =>
 bif (!x2.2.2) then (some ((api_Head.mk 0 0 0), 22))
 else (some (x2.1, 0))
def R16_Heap_field (F : Nat) (a0 : handloomref16_Heap) (a1 : Int) (a2 : Int) : Option (Int × Int) :=
 (R16_Heap_record F a0 a1).bind fun x1 =>
 bif ((!x1.2.2) || (x1.1.Kind != 0)) then (some (0, 22))
 else (bif ((decide (a2 < 0)) || (decide (x1.1.Count ≤ a2))) then (some (0, 20))
 else (some ((IntKind.i64.wrap ((IntKind.i64.wrap (x1.2.1 + 2)) + a2)), 0)))
def R16_Heap_Field (F : Nat) (a0 : handloomref16_Heap) (a1 : Int) (a2 : Int) : Option (Int × Int) :=
 (R16_Heap_field F a0 a1 a2).bind fun x1 =>
 bif (x1.2 != 0) then (some (0, x1.2))
 else ((idx a0.H.Words x1.1).bind fun x3 =>
 some (x3, 0))
def R16_Heap_Text_L0 (F : Nat) (a0 : handloomref16_Heap) (x1 : (api_Head × Int × Bool)) : Nat → Int → List Int → Option ((List Int) × Int)
 | 0, _, _ => none
 | m + 1, v6, v7 =>
 bif (decide (v6 < x1.1.Count)) then ((idx a0.H.Words (IntKind.i64.wrap ((IntKind.i64.wrap (x1.2.1 + 2)) + (IntKind.i64.wrap (v6.tdiv 8))))).bind fun x11 =>
 (shrM .u64 x11 (IntKind.u64.wrap (IntKind.i64.wrap (8 * (v6.tmod 8))))).bind fun x12 =>
 (idx v7 v6).bind fun x13 =>
 R16_Heap_Text_L0 F a0 x1 m (IntKind.i64.wrap (v6 + 1)) (v7.set v6.toNat (IntKind.u8.wrap x12)))
 else (some (v7, 0))
def R16_Heap_Text (F : Nat) (a0 : handloomref16_Heap) (a1 : Int) : Option ((List Int) × Int) :=
 (R16_Heap_record F a0 a1).bind fun x1 =>
 bif ((!x1.2.2) || (x1.1.Kind != 1)) then (some (([] : (List Int)), 22))
 else ((makM 1 0 x1.1.Count).bind fun x4 =>
 R16_Heap_Text_L0 F a0 x1 F 0 x4)
def R16_Heap_Where (F : Nat) (a0 : handloomref16_Heap) (a1 : Int) : Option (Int × Int) :=
 (R16_Heap_record F a0 a1).bind fun x1 =>
 bif (!x1.2.2) then (some (0, 22))
 else (some (x1.2.1, 0))
def R16_first (F : Nat) (a0 : api_Heap) : Option Int :=
 bif a0.Up then (some (IntKind.i64.wrap (a0.Half + 1)))
 else (some 1)
def R16_Heap_Room (F : Nat) (a0 : handloomref16_Heap) : Option Int :=
 (R16_first F a0.H).bind fun x1 =>
 some (IntKind.i64.wrap ((IntKind.i64.wrap (x1 + a0.H.Half)) - a0.H.Next))
def R16_Heap_Begin (F : Nat) (a0 : handloomref16_Heap) : Option Int :=
 (R16_first F a0.H).bind fun x1 =>
 some x1
def R16_Heap_Next (F : Nat) (a0 : handloomref16_Heap) : Option Int :=
 some a0.H.Next
def R16_Heap_Used (F : Nat) (a0 : handloomref16_Heap) (a1 : Int) : Option Bool :=
 (R16_first F a0.H).bind fun x1 =>
 joinM (fun (v2 : Bool) =>
 some v2) fun K1 =>
 bif (decide (x1 ≤ a1)) then ((R16_first F a0.H).bind fun x3 =>
 K1 (decide (a1 < (IntKind.i64.wrap (x3 + a0.H.Half)))))
 else (K1 false)
def L16_bytes (F : Nat) (a0 : (List Int)) (a1 : (List Int)) : Option Bool :=
 some ((textOf a0).toList == (textOf a1).toList)
def R16_Head (F : Nat) (a0 : api_Head) : Option (Int × Bool) :=
 (R16_can F a0).bind fun x2 =>
 bif (!x2) then (some (0, false))
 else (some ((IntKind.u64.wrap ((IntKind.u64.wrap ((IntKind.u64.wrap a0.Count) + (IntKind.u64.wrap (256 * (IntKind.u64.wrap a0.Tag))))) + (IntKind.u64.wrap (65536 * (IntKind.u64.wrap a0.Kind))))), true))
def R01_Ptr (F : Nat) (a0 : Int) : Option Int :=
 some (IntKind.u64.wrap (2 * (IntKind.u64.wrap a0)))
def heap_begin (F : Nat) (a0 : api_Heap) : Option Int :=
 bif a0.Up then (some (IntKind.i64.wrap (a0.Half + 1)))
 else (some 1)
def heap_can (F : Nat) (a0 : api_Head) : Option Bool :=
 bif (a0.Kind == 0) then (some ((((decide (0 ≤ a0.Tag)) && (decide (a0.Tag ≤ 15))) && (decide (0 < a0.Count))) && (decide (a0.Count ≤ 6))))
 else (bif (a0.Kind == 1) then (some (((a0.Tag == 0) && (decide (0 ≤ a0.Count))) && (decide (a0.Count ≤ 64))))
 else (some false))
def heap_Head (F : Nat) (a0 : api_Head) : Option (Int × Bool) :=
 (heap_can F a0).bind fun x2 =>
 bif (!x2) then (some (0, false))
 else (some ((IntKind.u64.wrap (borI .i64 (borI .i64 (IntKind.i64.wrap (a0.Kind * 65536)) (IntKind.i64.wrap (a0.Tag * 256))) a0.Count)), true))
def heap_Read (F : Nat) (a0 : Int) : Option (api_Head × Bool) :=
 (heap_Head F (api_Head.mk (IntKind.i64.wrap (bandI .u64 (IntKind.u64.wrap (a0.tdiv 65536)) 15)) (IntKind.i64.wrap (bandI .u64 (IntKind.u64.wrap (a0.tdiv 256)) 255)) (IntKind.i64.wrap (bandI .u64 a0 255)))).bind fun x3 =>
 bif ((!x3.2) || (x3.1 != a0)) then (some ((api_Head.mk 0 0 0), false))
 else (some ((api_Head.mk (IntKind.i64.wrap (bandI .u64 (IntKind.u64.wrap (a0.tdiv 65536)) 15)) (IntKind.i64.wrap (bandI .u64 (IntKind.u64.wrap (a0.tdiv 256)) 255)) (IntKind.i64.wrap (bandI .u64 a0 255))), true))
def heap_body (F : Nat) (a0 : api_Head) : Option Int :=
 bif (a0.Kind == 1) then (some (shrI .i64 (IntKind.i64.wrap (a0.Count + 7)) 3))
 else (some a0.Count)
def heap_Size (F : Nat) (a0 : api_Head) : Option Int :=
 (heap_can F a0).bind fun x2 =>
 bif (!x2) then (some 0)
 else ((heap_body F a0).bind fun x4 =>
 some (IntKind.i64.wrap (2 + x4)))
def word_Ptr (F : Nat) (a0 : Int) : Option Int :=
 some (shlI .u64 (IntKind.u64.wrap a0) 1)
def heap_Fit_L0 (F : Nat) (a0 : api_Heap) (K5 : Bool → Option Bool) : Nat → Int → Bool → Option Bool
 | 0, _, _ => none
 | m + 1, v8, v9 =>
 bif (decide (v8 < a0.Next)) then ((idx a0.Words v8).bind fun x13 =>
 (heap_Read F x13).bind fun x14 =>
 joinM (fun (v16 : Bool) =>
 joinM (fun (v18 : Bool) =>
 bif v18 then (some false)
 else ((heap_Size F x14.1).bind fun x22 =>
 heap_Fit_L0 F a0 K5 m (IntKind.i64.wrap (v8 + x22)) (v9 || (v8 == a0.Scan)))) fun K8 =>
 bif v16 then (K8 true)
 else ((idx a0.Words (IntKind.i64.wrap (v8 + 1))).bind fun x19 =>
 (word_Ptr F (IntKind.u32.wrap v8)).bind fun x20 =>
 K8 (x19 != x20))) fun K7 =>
 bif (!x14.2) then (K7 true)
 else ((heap_Size F x14.1).bind fun x17 =>
 K7 (decide (a0.Next < (IntKind.i64.wrap (v8 + x17))))))
 else (K5 v9)
def heap_Fit (F : Nat) (a0 : api_Heap) : Option Bool :=
 joinM (fun (v2 : Bool) =>
 bif v2 then (some false)
 else ((heap_begin F a0).bind fun x5 =>
 bif ((decide (a0.Next < x5)) || (decide (a0.Half < (IntKind.i64.wrap (a0.Next - x5))))) then (some false)
 else (joinM (fun (v7 : Bool) =>
 some ((a0.On && (v7 || (a0.Scan == a0.Next))) || ((!a0.On) && (a0.Scan == 0)))) fun K5 =>
 heap_Fit_L0 F a0 K5 F x5 false))) fun K3 =>
 bif (((decide (a0.Half < 16)) || (decide (16384 < a0.Half))) || ((a0.Words.length : Int) != (IntKind.i64.wrap ((IntKind.i64.wrap (2 * a0.Half)) + 1)))) then (K3 true)
 else ((idx a0.Words 0).bind fun x3 =>
 K3 (x3 != 0))
def R16_Fit_L0 (F : Nat) (a0 : api_Heap) (K5 : Bool → Option Bool) : Nat → Bool → Int → Option Bool
 | 0, _, _ => none
 | m + 1, v8, v9 =>
 bif (decide (v9 < a0.Next)) then ((idx a0.Words v9).bind fun x13 =>
 (R16_Read F x13).bind fun x14 =>
 joinM (fun (v16 : Bool) =>
 joinM (fun (v18 : Bool) =>
 bif v18 then (some false)
 else ((R16_Size F x14.1).bind fun x22 =>
 R16_Fit_L0 F a0 K5 m (v8 || (a0.Scan == v9)) (IntKind.i64.wrap (v9 + x22)))) fun K8 =>
 bif v16 then (K8 true)
 else ((idx a0.Words (IntKind.i64.wrap (v9 + 1))).bind fun x19 =>
 (R01_Ptr F (IntKind.u32.wrap v9)).bind fun x20 =>
 K8 (x19 != x20))) fun K7 =>
 bif (!x14.2) then (K7 true)
 else ((R16_Size F x14.1).bind fun x17 =>
 K7 (decide ((IntKind.i64.wrap (a0.Next - v9)) < x17))))
 else (K5 v8)
def R16_Fit (F : Nat) (a0 : api_Heap) : Option Bool :=
 joinM (fun (v2 : Bool) =>
 bif v2 then (some false)
 else ((R16_first F a0).bind fun x5 =>
 bif ((decide (a0.Next < x5)) || (decide ((IntKind.i64.wrap (x5 + a0.Half)) < a0.Next))) then (some false)
 else (joinM (fun (v7 : Bool) =>
 bif (!a0.On) then (some (a0.Scan == 0))
 else (some v7)) fun K5 =>
 R16_Fit_L0 F a0 K5 F (a0.Scan == a0.Next) x5))) fun K3 =>
 bif (((decide (a0.Half < 16)) || (decide (16384 < a0.Half))) || ((a0.Words.length : Int) != (IntKind.i64.wrap ((IntKind.i64.wrap (2 * a0.Half)) + 1)))) then (K3 true)
 else ((idx a0.Words 0).bind fun x3 =>
 K3 (x3 != 0))
def R16_Same_L0 (F : Nat) (a0 : api_Heap) (a1 : api_Heap) : Nat → Int → Option Bool
 | 0, _ => none
 | m + 1, v4 =>
 bif (decide (v4 < (a0.Words.length : Int))) then ((idx a0.Words v4).bind fun x7 =>
 (idx a1.Words v4).bind fun x8 =>
 bif (x7 != x8) then (some false)
 else (R16_Same_L0 F a0 a1 m (IntKind.i64.wrap (v4 + 1))))
 else (some true)
def R16_Same (F : Nat) (a0 : api_Heap) (a1 : api_Heap) : Option Bool :=
 bif ((((((a0.Half != a1.Half) || (!(a0.Up == a1.Up))) || (a0.Next != a1.Next)) || (!(a0.On == a1.On))) || (a0.Scan != a1.Scan)) || ((a0.Words.length : Int) != (a1.Words.length : Int))) then (some false)
 else (R16_Same_L0 F a0 a1 F 0)
def L16_tiny (F : Nat) (a0 : api_Heap) : Option Bool :=
 some (decide ((a0.Words.length : Int) ≤ 500))
end Go.Proofs.Ytfflojbgikfbmaa.M
