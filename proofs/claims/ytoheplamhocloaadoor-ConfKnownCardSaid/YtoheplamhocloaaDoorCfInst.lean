/- Facts on the types and functions of the translation, by program. No condition. -/
import Derived.Test.YtoheplamhocloaaDoorProg
import Derived.Test.YtoheplamhocloaaDoorSL2
import Derived.Test.YtoheplamhocloaaDoorSL3
namespace Go.Proofs.YtoheplamhocloaaDoor
open Go Go.SL

instance : Mixed Tryd.prog := ⟨by kernel_rfl⟩
instance : UnderPtr Tryd.prog 77 := ⟨by kernel_rfl⟩
instance : UnderPtr Tryd.prog 95 := ⟨by kernel_rfl⟩
instance : PtrTo Tryd.prog 77 := PtrTo.of (te := 80) (by kernel_rfl) (by kernel_rfl)
instance : PtrTo Tryd.prog 95 := PtrTo.of (te := 5) (by kernel_rfl) (by kernel_rfl)
instance : UnderBool Tryd.prog 4 := ⟨by kernel_rfl⟩
instance : FieldOff Tryd.prog 23 0 0 := FieldOff.of (by kernel_rfl)
instance : FieldOff Tryd.prog 23 1 1 := FieldOff.of (by kernel_rfl)
instance : FieldOff Tryd.prog 23 2 2 := FieldOff.of (by kernel_rfl)
instance : FieldOff Tryd.prog 23 3 3 := FieldOff.of (by kernel_rfl)
instance : FieldOff Tryd.prog 23 4 4 := FieldOff.of (by kernel_rfl)
instance : FieldOff Tryd.prog 23 5 5 := FieldOff.of (by kernel_rfl)
instance : FieldOff Tryd.prog 25 0 0 := FieldOff.of (by kernel_rfl)
instance : FieldOff Tryd.prog 25 1 1 := FieldOff.of (by kernel_rfl)
instance : FieldOff Tryd.prog 25 2 2 := FieldOff.of (by kernel_rfl)
instance : FieldOff Tryd.prog 25 3 3 := FieldOff.of (by kernel_rfl)
instance : FieldOff Tryd.prog 25 4 4 := FieldOff.of (by kernel_rfl)
instance : FieldOff Tryd.prog 25 5 5 := FieldOff.of (by kernel_rfl)
instance : FieldOff Tryd.prog 61 0 0 := FieldOff.of (by kernel_rfl)
instance : FieldOff Tryd.prog 61 1 6 := FieldOff.of (by kernel_rfl)
instance : FieldOff Tryd.prog 80 0 0 := FieldOff.of (by kernel_rfl)
instance : FieldOff Tryd.prog 80 1 1 := FieldOff.of (by kernel_rfl)
instance : FieldOff Tryd.prog 123 0 0 := FieldOff.of (by kernel_rfl)
instance : FieldOff Tryd.prog 123 1 1 := FieldOff.of (by kernel_rfl)
instance : SliceOf Tryd.prog 27 9 1 16 [.string ByteArray.empty] := SliceOf.of (by kernel_rfl) (by kernel_rfl) rfl
instance : SliceOf Tryd.prog 39 3 1 8 [.int .i64 0] := SliceOf.of (by kernel_rfl) (by kernel_rfl) rfl
instance : SliceOf Tryd.prog 53 23 6 48 [.int .i64 0, .int .i64 0, .int .i64 0, .int .i64 0, .int .i64 0, .int .i64 0] := SliceOf.of (by kernel_rfl) (by kernel_rfl) rfl
instance : SliceOf Tryd.prog 78 5 1 1 [.int .u8 0] := SliceOf.of (by kernel_rfl) (by kernel_rfl) rfl
instance : ArrayOf Tryd.prog 55 4 9 1 := ArrayOf.of (by kernel_rfl) (by kernel_rfl)
instance : ArrayOf Tryd.prog 57 7 9 1 := ArrayOf.of (by kernel_rfl) (by kernel_rfl)
instance : ArrayOf Tryd.prog 62 6 3 1 := ArrayOf.of (by kernel_rfl) (by kernel_rfl)
instance : ArrayOf Tryd.prog 65 6 64 1 := ArrayOf.of (by kernel_rfl) (by kernel_rfl)
instance : ArrayOf Tryd.prog 90 24 5 1 := ArrayOf.of (by kernel_rfl) (by kernel_rfl)
instance : ArrayOf Tryd.prog 108 20 72 1 := ArrayOf.of (by kernel_rfl) (by kernel_rfl)
instance : ArrayOf Tryd.prog 109 65 5 1 := ArrayOf.of (by kernel_rfl) (by kernel_rfl)
instance : ArrayOf Tryd.prog 121 256 5 1 := ArrayOf.of (by kernel_rfl) (by kernel_rfl)
instance : ArrayOf Tryd.prog 124 16 123 2 := ArrayOf.of (by kernel_rfl) (by kernel_rfl)
instance : ArrayOf Tryd.prog 127 32 5 1 := ArrayOf.of (by kernel_rfl) (by kernel_rfl)
instance : ArrayOf Tryd.prog 128 64 5 1 := ArrayOf.of (by kernel_rfl) (by kernel_rfl)
instance : Plain Tryd.prog 3 := Plain.of (by kernel_rfl) (by kernel_rfl)
instance : Plain Tryd.prog 5 := Plain.of (by kernel_rfl) (by kernel_rfl)
instance : Plain Tryd.prog 9 := Plain.of (by kernel_rfl) (by kernel_rfl)
instance : Plain Tryd.prog 67 := Plain.of (by kernel_rfl) (by kernel_rfl)
instance : Plain Tryd.prog 72 := Plain.of (by kernel_rfl) (by kernel_rfl)
instance : Plain Tryd.prog 77 := Plain.of (by kernel_rfl) (by kernel_rfl)
instance : Plain Tryd.prog 78 := Plain.of (by kernel_rfl) (by kernel_rfl)
instance : Aggr Tryd.prog 23 6 := Aggr.of (by kernel_rfl) (by kernel_rfl)
instance : Aggr Tryd.prog 25 6 := Aggr.of (by kernel_rfl) (by kernel_rfl)
instance : Aggr Tryd.prog 55 4 := Aggr.of (by kernel_rfl) (by kernel_rfl)
instance : Aggr Tryd.prog 57 7 := Aggr.of (by kernel_rfl) (by kernel_rfl)
instance : Aggr Tryd.prog 108 20 := Aggr.of (by kernel_rfl) (by kernel_rfl)
instance : Aggr Tryd.prog 123 2 := Aggr.of (by kernel_rfl) (by kernel_rfl)
instance : Aggr Tryd.prog 124 32 := Aggr.of (by kernel_rfl) (by kernel_rfl)
instance : Aggr Tryd.prog 127 32 := Aggr.of (by kernel_rfl) (by kernel_rfl)
instance : Aggr Tryd.prog 128 64 := Aggr.of (by kernel_rfl) (by kernel_rfl)
instance : ZeroOf Tryd.prog 23 [.int .i64 0, .int .i64 0, .int .i64 0, .int .i64 0, .int .i64 0, .int .i64 0] := ZeroOf.of (by kernel_rfl)
instance : ZeroOf Tryd.prog 25 [.int .i64 0, .int .i64 0, .int .i64 0, .int .i64 0, .int .i64 0, .int .i64 0] := ZeroOf.of (by kernel_rfl)
instance : ZeroOf Tryd.prog 55 [.string ByteArray.empty, .string ByteArray.empty, .string ByteArray.empty, .string ByteArray.empty] := ZeroOf.of (by kernel_rfl)
instance : ZeroOf Tryd.prog 57 [.string ByteArray.empty, .string ByteArray.empty, .string ByteArray.empty, .string ByteArray.empty, .string ByteArray.empty, .string ByteArray.empty, .string ByteArray.empty] := ZeroOf.of (by kernel_rfl)
instance : ZeroOf Tryd.prog 61 [.int .i64 0, .int .i64 0, .int .i64 0, .int .i64 0, .int .i64 0, .int .i64 0, .int .i64 0] := ZeroOf.of (by kernel_rfl)
instance : ZeroOf Tryd.prog 62 [.int .i64 0, .int .i64 0, .int .i64 0, .int .i64 0, .int .i64 0, .int .i64 0] := ZeroOf.of (by kernel_rfl)
instance : ZeroOf Tryd.prog 65 [.pointer none, .pointer none, .pointer none, .pointer none, .pointer none, .pointer none] := ZeroOf.of (by kernel_rfl)
instance : ZeroOf Tryd.prog 80 [.pointer none, .slice none 0 0] := ZeroOf.of (by kernel_rfl)
instance : ZeroOf Tryd.prog 90 [.int .u8 0, .int .u8 0, .int .u8 0, .int .u8 0, .int .u8 0, .int .u8 0, .int .u8 0, .int .u8 0, .int .u8 0, .int .u8 0, .int .u8 0, .int .u8 0, .int .u8 0, .int .u8 0, .int .u8 0, .int .u8 0, .int .u8 0, .int .u8 0, .int .u8 0, .int .u8 0, .int .u8 0, .int .u8 0, .int .u8 0, .int .u8 0] := ZeroOf.of (by kernel_rfl)
instance : ZeroOf Tryd.prog 105 [.string ByteArray.empty, .string ByteArray.empty, .nilIface] := ZeroOf.of (by kernel_rfl)
instance : ZeroOf Tryd.prog 108 [.int .u64 0, .int .u64 0, .int .u64 0, .int .u64 0, .int .u64 0, .int .u64 0, .int .u64 0, .int .u64 0, .int .u64 0, .int .u64 0, .int .u64 0, .int .u64 0, .int .u64 0, .int .u64 0, .int .u64 0, .int .u64 0, .int .u64 0, .int .u64 0, .int .u64 0, .int .u64 0] := ZeroOf.of (by kernel_rfl)
instance : ZeroOf Tryd.prog 109 [.int .u8 0, .int .u8 0, .int .u8 0, .int .u8 0, .int .u8 0, .int .u8 0, .int .u8 0, .int .u8 0, .int .u8 0, .int .u8 0, .int .u8 0, .int .u8 0, .int .u8 0, .int .u8 0, .int .u8 0, .int .u8 0, .int .u8 0, .int .u8 0, .int .u8 0, .int .u8 0, .int .u8 0, .int .u8 0, .int .u8 0, .int .u8 0, .int .u8 0, .int .u8 0, .int .u8 0, .int .u8 0, .int .u8 0, .int .u8 0, .int .u8 0, .int .u8 0, .int .u8 0, .int .u8 0, .int .u8 0, .int .u8 0, .int .u8 0, .int .u8 0, .int .u8 0, .int .u8 0, .int .u8 0, .int .u8 0, .int .u8 0, .int .u8 0, .int .u8 0, .int .u8 0, .int .u8 0, .int .u8 0, .int .u8 0, .int .u8 0, .int .u8 0, .int .u8 0, .int .u8 0, .int .u8 0, .int .u8 0, .int .u8 0, .int .u8 0, .int .u8 0, .int .u8 0, .int .u8 0, .int .u8 0, .int .u8 0, .int .u8 0, .int .u8 0, .int .u8 0] := ZeroOf.of (by kernel_rfl)
instance : ZeroOf Tryd.prog 119 [.string ByteArray.empty] := ZeroOf.of (by kernel_rfl)
instance : ZeroOf Tryd.prog 123 [.int .u8 0, .int .u8 0] := ZeroOf.of (by kernel_rfl)
instance : ZeroOf Tryd.prog 124 [.int .u8 0, .int .u8 0, .int .u8 0, .int .u8 0, .int .u8 0, .int .u8 0, .int .u8 0, .int .u8 0, .int .u8 0, .int .u8 0, .int .u8 0, .int .u8 0, .int .u8 0, .int .u8 0, .int .u8 0, .int .u8 0, .int .u8 0, .int .u8 0, .int .u8 0, .int .u8 0, .int .u8 0, .int .u8 0, .int .u8 0, .int .u8 0, .int .u8 0, .int .u8 0, .int .u8 0, .int .u8 0, .int .u8 0, .int .u8 0, .int .u8 0, .int .u8 0] := ZeroOf.of (by kernel_rfl)
instance : ZeroOf Tryd.prog 127 [.int .u8 0, .int .u8 0, .int .u8 0, .int .u8 0, .int .u8 0, .int .u8 0, .int .u8 0, .int .u8 0, .int .u8 0, .int .u8 0, .int .u8 0, .int .u8 0, .int .u8 0, .int .u8 0, .int .u8 0, .int .u8 0, .int .u8 0, .int .u8 0, .int .u8 0, .int .u8 0, .int .u8 0, .int .u8 0, .int .u8 0, .int .u8 0, .int .u8 0, .int .u8 0, .int .u8 0, .int .u8 0, .int .u8 0, .int .u8 0, .int .u8 0, .int .u8 0] := ZeroOf.of (by kernel_rfl)
instance : ZeroOf Tryd.prog 128 [.int .u8 0, .int .u8 0, .int .u8 0, .int .u8 0, .int .u8 0, .int .u8 0, .int .u8 0, .int .u8 0, .int .u8 0, .int .u8 0, .int .u8 0, .int .u8 0, .int .u8 0, .int .u8 0, .int .u8 0, .int .u8 0, .int .u8 0, .int .u8 0, .int .u8 0, .int .u8 0, .int .u8 0, .int .u8 0, .int .u8 0, .int .u8 0, .int .u8 0, .int .u8 0, .int .u8 0, .int .u8 0, .int .u8 0, .int .u8 0, .int .u8 0, .int .u8 0, .int .u8 0, .int .u8 0, .int .u8 0, .int .u8 0, .int .u8 0, .int .u8 0, .int .u8 0, .int .u8 0, .int .u8 0, .int .u8 0, .int .u8 0, .int .u8 0, .int .u8 0, .int .u8 0, .int .u8 0, .int .u8 0, .int .u8 0, .int .u8 0, .int .u8 0, .int .u8 0, .int .u8 0, .int .u8 0, .int .u8 0, .int .u8 0, .int .u8 0, .int .u8 0, .int .u8 0, .int .u8 0, .int .u8 0, .int .u8 0, .int .u8 0, .int .u8 0] := ZeroOf.of (by kernel_rfl)
instance : StructOf Tryd.prog 23 [(0, 1), (1, 1), (2, 1), (3, 1), (4, 1), (5, 1)] [.int .i64 0, .int .i64 0, .int .i64 0, .int .i64 0, .int .i64 0, .int .i64 0] := ⟨fun _ => by kernel_rfl⟩
instance : StructOf Tryd.prog 25 [(0, 1), (1, 1), (2, 1), (3, 1), (4, 1), (5, 1)] [.int .i64 0, .int .i64 0, .int .i64 0, .int .i64 0, .int .i64 0, .int .i64 0] := ⟨fun _ => by kernel_rfl⟩
instance : ArrayBuild Tryd.prog 55 1 [.string ByteArray.empty, .string ByteArray.empty, .string ByteArray.empty, .string ByteArray.empty] := ⟨fun _ => by kernel_rfl⟩
instance : ArrayBuild Tryd.prog 57 1 [.string ByteArray.empty, .string ByteArray.empty, .string ByteArray.empty, .string ByteArray.empty, .string ByteArray.empty, .string ByteArray.empty, .string ByteArray.empty] := ⟨fun _ => by kernel_rfl⟩
instance : StructOf Tryd.prog 61 [(0, 6), (6, 1)] [.int .i64 0, .int .i64 0, .int .i64 0, .int .i64 0, .int .i64 0, .int .i64 0, .int .i64 0] := ⟨fun _ => by kernel_rfl⟩
instance : ArrayBuild Tryd.prog 62 1 [.int .i64 0, .int .i64 0, .int .i64 0, .int .i64 0, .int .i64 0, .int .i64 0] := ⟨fun _ => by kernel_rfl⟩
instance : ArrayBuild Tryd.prog 65 1 [.pointer none, .pointer none, .pointer none, .pointer none, .pointer none, .pointer none] := ⟨fun _ => by kernel_rfl⟩
instance : StructOf Tryd.prog 105 [(0, 1), (1, 1), (2, 1)] [.string ByteArray.empty, .string ByteArray.empty, .nilIface] := ⟨fun _ => by kernel_rfl⟩
instance : ArrayBuild Tryd.prog 108 1 [.int .u64 0, .int .u64 0, .int .u64 0, .int .u64 0, .int .u64 0, .int .u64 0, .int .u64 0, .int .u64 0, .int .u64 0, .int .u64 0, .int .u64 0, .int .u64 0, .int .u64 0, .int .u64 0, .int .u64 0, .int .u64 0, .int .u64 0, .int .u64 0, .int .u64 0, .int .u64 0] := ⟨fun _ => by kernel_rfl⟩
instance : StructOf Tryd.prog 119 [(0, 1)] [.string ByteArray.empty] := ⟨fun _ => by kernel_rfl⟩
instance : StructOf Tryd.prog 123 [(0, 1), (1, 1)] [.int .u8 0, .int .u8 0] := ⟨fun _ => by kernel_rfl⟩
instance : ArrayBuild Tryd.prog 124 2 [.int .u8 0, .int .u8 0, .int .u8 0, .int .u8 0, .int .u8 0, .int .u8 0, .int .u8 0, .int .u8 0, .int .u8 0, .int .u8 0, .int .u8 0, .int .u8 0, .int .u8 0, .int .u8 0, .int .u8 0, .int .u8 0, .int .u8 0, .int .u8 0, .int .u8 0, .int .u8 0, .int .u8 0, .int .u8 0, .int .u8 0, .int .u8 0, .int .u8 0, .int .u8 0, .int .u8 0, .int .u8 0, .int .u8 0, .int .u8 0, .int .u8 0, .int .u8 0] := ⟨fun _ => by kernel_rfl⟩
instance : ArrayBuild Tryd.prog 127 1 [.int .u8 0, .int .u8 0, .int .u8 0, .int .u8 0, .int .u8 0, .int .u8 0, .int .u8 0, .int .u8 0, .int .u8 0, .int .u8 0, .int .u8 0, .int .u8 0, .int .u8 0, .int .u8 0, .int .u8 0, .int .u8 0, .int .u8 0, .int .u8 0, .int .u8 0, .int .u8 0, .int .u8 0, .int .u8 0, .int .u8 0, .int .u8 0, .int .u8 0, .int .u8 0, .int .u8 0, .int .u8 0, .int .u8 0, .int .u8 0, .int .u8 0, .int .u8 0] := ⟨fun _ => by kernel_rfl⟩
instance : ArrayBuild Tryd.prog 128 1 [.int .u8 0, .int .u8 0, .int .u8 0, .int .u8 0, .int .u8 0, .int .u8 0, .int .u8 0, .int .u8 0, .int .u8 0, .int .u8 0, .int .u8 0, .int .u8 0, .int .u8 0, .int .u8 0, .int .u8 0, .int .u8 0, .int .u8 0, .int .u8 0, .int .u8 0, .int .u8 0, .int .u8 0, .int .u8 0, .int .u8 0, .int .u8 0, .int .u8 0, .int .u8 0, .int .u8 0, .int .u8 0, .int .u8 0, .int .u8 0, .int .u8 0, .int .u8 0, .int .u8 0, .int .u8 0, .int .u8 0, .int .u8 0, .int .u8 0, .int .u8 0, .int .u8 0, .int .u8 0, .int .u8 0, .int .u8 0, .int .u8 0, .int .u8 0, .int .u8 0, .int .u8 0, .int .u8 0, .int .u8 0, .int .u8 0, .int .u8 0, .int .u8 0, .int .u8 0, .int .u8 0, .int .u8 0, .int .u8 0, .int .u8 0, .int .u8 0, .int .u8 0, .int .u8 0, .int .u8 0, .int .u8 0, .int .u8 0, .int .u8 0, .int .u8 0] := ⟨fun _ => by kernel_rfl⟩
instance : FlatEq Tryd.prog 23 [.int .i64, .int .i64, .int .i64, .int .i64, .int .i64, .int .i64] := ⟨by kernel_rfl, by kernel_rfl, by kernel_rfl, by kernel_rfl⟩
instance : FlatEq Tryd.prog 25 [.int .i64, .int .i64, .int .i64, .int .i64, .int .i64, .int .i64] := ⟨by kernel_rfl, by kernel_rfl, by kernel_rfl, by kernel_rfl⟩
instance : UnderStr Tryd.prog 9 := ⟨by kernel_rfl⟩
instance : UnderStr Tryd.prog 10 := ⟨by kernel_rfl⟩
instance : UnderStr Tryd.prog 11 := ⟨by kernel_rfl⟩
instance : IntTy Tryd.prog 2 .i64 := ⟨by kernel_rfl⟩
instance : IntTy Tryd.prog 3 .i64 := ⟨by kernel_rfl⟩
instance : IntTy Tryd.prog 5 .u8 := ⟨by kernel_rfl⟩
instance : IntTy Tryd.prog 21 .i32 := ⟨by kernel_rfl⟩
instance : IntTy Tryd.prog 29 .i64 := ⟨by kernel_rfl⟩
instance : IntTy Tryd.prog 35 .u32 := ⟨by kernel_rfl⟩
instance : IntTy Tryd.prog 72 .u64 := ⟨by kernel_rfl⟩
instance : IntTy Tryd.prog 102 .u64 := ⟨by kernel_rfl⟩
instance : Callable Tryd.prog 2 := Callable.of (by kernel_rfl)
instance : Callable Tryd.prog 3 := Callable.of (by kernel_rfl)
instance : Callable Tryd.prog 4 := Callable.of (by kernel_rfl)
instance : Callable Tryd.prog 5 := Callable.of (by kernel_rfl)
instance : Callable Tryd.prog 6 := Callable.of (by kernel_rfl)
instance : Callable Tryd.prog 7 := Callable.of (by kernel_rfl)
instance : Callable Tryd.prog 8 := Callable.of (by kernel_rfl)
instance : Callable Tryd.prog 9 := Callable.of (by kernel_rfl)
instance : Callable Tryd.prog 10 := Callable.of (by kernel_rfl)
instance : Callable Tryd.prog 11 := Callable.of (by kernel_rfl)
instance : Callable Tryd.prog 12 := Callable.of (by kernel_rfl)
instance : Callable Tryd.prog 13 := Callable.of (by kernel_rfl)
instance : Callable Tryd.prog 14 := Callable.of (by kernel_rfl)
instance : Callable Tryd.prog 15 := Callable.of (by kernel_rfl)
instance : Callable Tryd.prog 16 := Callable.of (by kernel_rfl)
instance : Callable Tryd.prog 17 := Callable.of (by kernel_rfl)
instance : Callable Tryd.prog 18 := Callable.of (by kernel_rfl)
instance : Callable Tryd.prog 19 := Callable.of (by kernel_rfl)
instance : Callable Tryd.prog 20 := Callable.of (by kernel_rfl)
instance : Callable Tryd.prog 21 := Callable.of (by kernel_rfl)
instance : Callable Tryd.prog 22 := Callable.of (by kernel_rfl)
instance : Callable Tryd.prog 23 := Callable.of (by kernel_rfl)
instance : Callable Tryd.prog 24 := Callable.of (by kernel_rfl)
instance : Callable Tryd.prog 25 := Callable.of (by kernel_rfl)
instance : Callable Tryd.prog 26 := Callable.of (by kernel_rfl)
instance : Callable Tryd.prog 27 := Callable.of (by kernel_rfl)
instance : Callable Tryd.prog 28 := Callable.of (by kernel_rfl)
instance : Callable Tryd.prog 29 := Callable.of (by kernel_rfl)
instance : Callable Tryd.prog 30 := Callable.of (by kernel_rfl)
instance : Callable Tryd.prog 31 := Callable.of (by kernel_rfl)
instance : Callable Tryd.prog 32 := Callable.of (by kernel_rfl)
instance : Callable Tryd.prog 33 := Callable.of (by kernel_rfl)
instance : Callable Tryd.prog 34 := Callable.of (by kernel_rfl)
instance : Callable Tryd.prog 35 := Callable.of (by kernel_rfl)
instance : Callable Tryd.prog 36 := Callable.of (by kernel_rfl)
instance : Callable Tryd.prog 37 := Callable.of (by kernel_rfl)
instance : Callable Tryd.prog 38 := Callable.of (by kernel_rfl)
instance : Callable Tryd.prog 39 := Callable.of (by kernel_rfl)
instance : Callable Tryd.prog 40 := Callable.of (by kernel_rfl)
instance : Callable Tryd.prog 41 := Callable.of (by kernel_rfl)
instance : Callable Tryd.prog 42 := Callable.of (by kernel_rfl)
instance : Callable Tryd.prog 43 := Callable.of (by kernel_rfl)
instance : Callable Tryd.prog 44 := Callable.of (by kernel_rfl)
instance : Callable Tryd.prog 45 := Callable.of (by kernel_rfl)
instance : Callable Tryd.prog 46 := Callable.of (by kernel_rfl)
instance : Callable Tryd.prog 47 := Callable.of (by kernel_rfl)
instance : Callable Tryd.prog 48 := Callable.of (by kernel_rfl)
instance : Callable Tryd.prog 49 := Callable.of (by kernel_rfl)
instance : Callable Tryd.prog 50 := Callable.of (by kernel_rfl)
instance : Callable Tryd.prog 51 := Callable.of (by kernel_rfl)
instance : Callable Tryd.prog 52 := Callable.of (by kernel_rfl)
instance : Callable Tryd.prog 53 := Callable.of (by kernel_rfl)
instance : Callable Tryd.prog 54 := Callable.of (by kernel_rfl)
instance : Callable Tryd.prog 55 := Callable.of (by kernel_rfl)
instance : Callable Tryd.prog 56 := Callable.of (by kernel_rfl)
instance : Callable Tryd.prog 57 := Callable.of (by kernel_rfl)
instance : Callable Tryd.prog 58 := Callable.of (by kernel_rfl)
instance : Callable Tryd.prog 59 := Callable.of (by kernel_rfl)
instance : Callable Tryd.prog 60 := Callable.of (by kernel_rfl)
instance : Callable Tryd.prog 61 := Callable.of (by kernel_rfl)
instance : Callable Tryd.prog 62 := Callable.of (by kernel_rfl)
instance : Callable Tryd.prog 63 := Callable.of (by kernel_rfl)
instance : Callable Tryd.prog 64 := Callable.of (by kernel_rfl)
instance : Callable Tryd.prog 65 := Callable.of (by kernel_rfl)
instance : Callable Tryd.prog 66 := Callable.of (by kernel_rfl)
instance : Callable Tryd.prog 68 := Callable.of (by kernel_rfl)
instance : Callable Tryd.prog 69 := Callable.of (by kernel_rfl)
instance : Callable Tryd.prog 70 := Callable.of (by kernel_rfl)
instance : Callable Tryd.prog 71 := Callable.of (by kernel_rfl)
instance : Callable Tryd.prog 72 := Callable.of (by kernel_rfl)
instance : Callable Tryd.prog 73 := Callable.of (by kernel_rfl)
instance : Callable Tryd.prog 74 := Callable.of (by kernel_rfl)
instance : Callable Tryd.prog 75 := Callable.of (by kernel_rfl)
instance : Callable Tryd.prog 76 := Callable.of (by kernel_rfl)
instance : Callable Tryd.prog 79 := Callable.of (by kernel_rfl)
instance : Callable Tryd.prog 80 := Callable.of (by kernel_rfl)
instance : Callable Tryd.prog 82 := Callable.of (by kernel_rfl)
instance : Callable Tryd.prog 83 := Callable.of (by kernel_rfl)
instance : Callable Tryd.prog 84 := Callable.of (by kernel_rfl)
instance : Callable Tryd.prog 85 := Callable.of (by kernel_rfl)
instance : Callable Tryd.prog 86 := Callable.of (by kernel_rfl)
instance : Callable Tryd.prog 87 := Callable.of (by kernel_rfl)
instance : Callable Tryd.prog 89 := Callable.of (by kernel_rfl)
instance : Callable Tryd.prog 120 := Callable.of (by kernel_rfl)

end Go.Proofs.YtoheplamhocloaaDoor
