/- Facts on the types and functions of the translation, by program. No condition. -/
import Derived.Test.YtofgpppnknpblaaGreatDoorProg
import Derived.Test.YtofgpppnknpblaaGreatDoorSL2
import Derived.Test.YtofgpppnknpblaaGreatDoorSL3
namespace Go.Proofs.YtofgpppnknpblaaGreatDoor
open Go Go.SL

instance : Mixed Tryz.prog := ⟨by kernel_rfl⟩
instance : UnderPtr Tryz.prog 56 := ⟨by kernel_rfl⟩
instance : UnderPtr Tryz.prog 92 := ⟨by kernel_rfl⟩
instance : UnderPtr Tryz.prog 103 := ⟨by kernel_rfl⟩
instance : PtrTo Tryz.prog 56 := PtrTo.of (te := 54) (by kernel_rfl) (by kernel_rfl)
instance : PtrTo Tryz.prog 92 := PtrTo.of (te := 95) (by kernel_rfl) (by kernel_rfl)
instance : PtrTo Tryz.prog 103 := PtrTo.of (te := 5) (by kernel_rfl) (by kernel_rfl)
instance : UnderBool Tryz.prog 4 := ⟨by kernel_rfl⟩
instance : FieldOff Tryz.prog 25 0 0 := FieldOff.of (by kernel_rfl)
instance : FieldOff Tryz.prog 25 1 1 := FieldOff.of (by kernel_rfl)
instance : FieldOff Tryz.prog 25 2 2 := FieldOff.of (by kernel_rfl)
instance : FieldOff Tryz.prog 25 3 3 := FieldOff.of (by kernel_rfl)
instance : FieldOff Tryz.prog 25 4 4 := FieldOff.of (by kernel_rfl)
instance : FieldOff Tryz.prog 31 0 0 := FieldOff.of (by kernel_rfl)
instance : FieldOff Tryz.prog 31 1 1 := FieldOff.of (by kernel_rfl)
instance : FieldOff Tryz.prog 31 2 2 := FieldOff.of (by kernel_rfl)
instance : FieldOff Tryz.prog 31 3 3 := FieldOff.of (by kernel_rfl)
instance : FieldOff Tryz.prog 31 4 4 := FieldOff.of (by kernel_rfl)
instance : FieldOff Tryz.prog 54 0 0 := FieldOff.of (by kernel_rfl)
instance : FieldOff Tryz.prog 69 0 0 := FieldOff.of (by kernel_rfl)
instance : FieldOff Tryz.prog 69 1 1 := FieldOff.of (by kernel_rfl)
instance : FieldOff Tryz.prog 69 2 2 := FieldOff.of (by kernel_rfl)
instance : FieldOff Tryz.prog 95 0 0 := FieldOff.of (by kernel_rfl)
instance : FieldOff Tryz.prog 95 1 1 := FieldOff.of (by kernel_rfl)
instance : FieldOff Tryz.prog 145 0 0 := FieldOff.of (by kernel_rfl)
instance : FieldOff Tryz.prog 145 1 1 := FieldOff.of (by kernel_rfl)
instance : SliceOf Tryz.prog 22 23 1 24 [.slice none 0 0] := SliceOf.of (by kernel_rfl) (by kernel_rfl) rfl
instance : SliceOf Tryz.prog 23 31 5 40 [.int .i64 0, .int .i64 0, .int .i64 0, .int .i64 0, .int .i64 0] := SliceOf.of (by kernel_rfl) (by kernel_rfl) rfl
instance : SliceOf Tryz.prog 29 3 1 8 [.int .i64 0] := SliceOf.of (by kernel_rfl) (by kernel_rfl) rfl
instance : SliceOf Tryz.prog 39 9 1 16 [.string ByteArray.empty] := SliceOf.of (by kernel_rfl) (by kernel_rfl) rfl
instance : SliceOf Tryz.prog 55 25 5 40 [.int .i64 0, .int .i64 0, .int .i64 0, .int .i64 0, .int .i64 0] := SliceOf.of (by kernel_rfl) (by kernel_rfl) rfl
instance : SliceOf Tryz.prog 79 69 3 40 [.string ByteArray.empty, .string ByteArray.empty, .bool false] := SliceOf.of (by kernel_rfl) (by kernel_rfl) rfl
instance : SliceOf Tryz.prog 93 5 1 1 [.int .u8 0] := SliceOf.of (by kernel_rfl) (by kernel_rfl) rfl
instance : ArrayOf Tryz.prog 76 17 69 3 := ArrayOf.of (by kernel_rfl) (by kernel_rfl)
instance : ArrayOf Tryz.prog 112 24 5 1 := ArrayOf.of (by kernel_rfl) (by kernel_rfl)
instance : ArrayOf Tryz.prog 133 20 45 1 := ArrayOf.of (by kernel_rfl) (by kernel_rfl)
instance : ArrayOf Tryz.prog 135 65 5 1 := ArrayOf.of (by kernel_rfl) (by kernel_rfl)
instance : ArrayOf Tryz.prog 143 256 5 1 := ArrayOf.of (by kernel_rfl) (by kernel_rfl)
instance : ArrayOf Tryz.prog 146 16 145 2 := ArrayOf.of (by kernel_rfl) (by kernel_rfl)
instance : ArrayOf Tryz.prog 149 32 5 1 := ArrayOf.of (by kernel_rfl) (by kernel_rfl)
instance : ArrayOf Tryz.prog 150 64 5 1 := ArrayOf.of (by kernel_rfl) (by kernel_rfl)
instance : Plain Tryz.prog 3 := Plain.of (by kernel_rfl) (by kernel_rfl)
instance : Plain Tryz.prog 4 := Plain.of (by kernel_rfl) (by kernel_rfl)
instance : Plain Tryz.prog 5 := Plain.of (by kernel_rfl) (by kernel_rfl)
instance : Plain Tryz.prog 9 := Plain.of (by kernel_rfl) (by kernel_rfl)
instance : Plain Tryz.prog 23 := Plain.of (by kernel_rfl) (by kernel_rfl)
instance : Plain Tryz.prog 29 := Plain.of (by kernel_rfl) (by kernel_rfl)
instance : Plain Tryz.prog 39 := Plain.of (by kernel_rfl) (by kernel_rfl)
instance : Plain Tryz.prog 45 := Plain.of (by kernel_rfl) (by kernel_rfl)
instance : Plain Tryz.prog 49 := Plain.of (by kernel_rfl) (by kernel_rfl)
instance : Plain Tryz.prog 82 := Plain.of (by kernel_rfl) (by kernel_rfl)
instance : Plain Tryz.prog 92 := Plain.of (by kernel_rfl) (by kernel_rfl)
instance : Plain Tryz.prog 93 := Plain.of (by kernel_rfl) (by kernel_rfl)
instance : Aggr Tryz.prog 25 5 := Aggr.of (by kernel_rfl) (by kernel_rfl)
instance : Aggr Tryz.prog 31 5 := Aggr.of (by kernel_rfl) (by kernel_rfl)
instance : Aggr Tryz.prog 69 3 := Aggr.of (by kernel_rfl) (by kernel_rfl)
instance : Aggr Tryz.prog 76 51 := Aggr.of (by kernel_rfl) (by kernel_rfl)
instance : Aggr Tryz.prog 133 20 := Aggr.of (by kernel_rfl) (by kernel_rfl)
instance : Aggr Tryz.prog 145 2 := Aggr.of (by kernel_rfl) (by kernel_rfl)
instance : Aggr Tryz.prog 146 32 := Aggr.of (by kernel_rfl) (by kernel_rfl)
instance : Aggr Tryz.prog 149 32 := Aggr.of (by kernel_rfl) (by kernel_rfl)
instance : Aggr Tryz.prog 150 64 := Aggr.of (by kernel_rfl) (by kernel_rfl)
instance : ZeroOf Tryz.prog 3 [.int .i64 0] := ZeroOf.of (by kernel_rfl)
instance : ZeroOf Tryz.prog 25 [.int .i64 0, .int .i64 0, .int .i64 0, .int .i64 0, .int .i64 0] := ZeroOf.of (by kernel_rfl)
instance : ZeroOf Tryz.prog 29 [.slice none 0 0] := ZeroOf.of (by kernel_rfl)
instance : ZeroOf Tryz.prog 31 [.int .i64 0, .int .i64 0, .int .i64 0, .int .i64 0, .int .i64 0] := ZeroOf.of (by kernel_rfl)
instance : ZeroOf Tryz.prog 39 [.slice none 0 0] := ZeroOf.of (by kernel_rfl)
instance : ZeroOf Tryz.prog 49 [.nilFunc] := ZeroOf.of (by kernel_rfl)
instance : ZeroOf Tryz.prog 54 [.slice none 0 0] := ZeroOf.of (by kernel_rfl)
instance : ZeroOf Tryz.prog 69 [.string ByteArray.empty, .string ByteArray.empty, .bool false] := ZeroOf.of (by kernel_rfl)
instance : ZeroOf Tryz.prog 76 [.string ByteArray.empty, .string ByteArray.empty, .bool false, .string ByteArray.empty, .string ByteArray.empty, .bool false, .string ByteArray.empty, .string ByteArray.empty, .bool false, .string ByteArray.empty, .string ByteArray.empty, .bool false, .string ByteArray.empty, .string ByteArray.empty, .bool false, .string ByteArray.empty, .string ByteArray.empty, .bool false, .string ByteArray.empty, .string ByteArray.empty, .bool false, .string ByteArray.empty, .string ByteArray.empty, .bool false, .string ByteArray.empty, .string ByteArray.empty, .bool false, .string ByteArray.empty, .string ByteArray.empty, .bool false, .string ByteArray.empty, .string ByteArray.empty, .bool false, .string ByteArray.empty, .string ByteArray.empty, .bool false, .string ByteArray.empty, .string ByteArray.empty, .bool false, .string ByteArray.empty, .string ByteArray.empty, .bool false, .string ByteArray.empty, .string ByteArray.empty, .bool false, .string ByteArray.empty, .string ByteArray.empty, .bool false, .string ByteArray.empty, .string ByteArray.empty, .bool false] := ZeroOf.of (by kernel_rfl)
instance : ZeroOf Tryz.prog 95 [.pointer none, .slice none 0 0] := ZeroOf.of (by kernel_rfl)
instance : ZeroOf Tryz.prog 112 [.int .u8 0, .int .u8 0, .int .u8 0, .int .u8 0, .int .u8 0, .int .u8 0, .int .u8 0, .int .u8 0, .int .u8 0, .int .u8 0, .int .u8 0, .int .u8 0, .int .u8 0, .int .u8 0, .int .u8 0, .int .u8 0, .int .u8 0, .int .u8 0, .int .u8 0, .int .u8 0, .int .u8 0, .int .u8 0, .int .u8 0, .int .u8 0] := ZeroOf.of (by kernel_rfl)
instance : ZeroOf Tryz.prog 129 [.string ByteArray.empty, .string ByteArray.empty, .nilIface] := ZeroOf.of (by kernel_rfl)
instance : ZeroOf Tryz.prog 133 [.int .u64 0, .int .u64 0, .int .u64 0, .int .u64 0, .int .u64 0, .int .u64 0, .int .u64 0, .int .u64 0, .int .u64 0, .int .u64 0, .int .u64 0, .int .u64 0, .int .u64 0, .int .u64 0, .int .u64 0, .int .u64 0, .int .u64 0, .int .u64 0, .int .u64 0, .int .u64 0] := ZeroOf.of (by kernel_rfl)
instance : ZeroOf Tryz.prog 135 [.int .u8 0, .int .u8 0, .int .u8 0, .int .u8 0, .int .u8 0, .int .u8 0, .int .u8 0, .int .u8 0, .int .u8 0, .int .u8 0, .int .u8 0, .int .u8 0, .int .u8 0, .int .u8 0, .int .u8 0, .int .u8 0, .int .u8 0, .int .u8 0, .int .u8 0, .int .u8 0, .int .u8 0, .int .u8 0, .int .u8 0, .int .u8 0, .int .u8 0, .int .u8 0, .int .u8 0, .int .u8 0, .int .u8 0, .int .u8 0, .int .u8 0, .int .u8 0, .int .u8 0, .int .u8 0, .int .u8 0, .int .u8 0, .int .u8 0, .int .u8 0, .int .u8 0, .int .u8 0, .int .u8 0, .int .u8 0, .int .u8 0, .int .u8 0, .int .u8 0, .int .u8 0, .int .u8 0, .int .u8 0, .int .u8 0, .int .u8 0, .int .u8 0, .int .u8 0, .int .u8 0, .int .u8 0, .int .u8 0, .int .u8 0, .int .u8 0, .int .u8 0, .int .u8 0, .int .u8 0, .int .u8 0, .int .u8 0, .int .u8 0, .int .u8 0, .int .u8 0] := ZeroOf.of (by kernel_rfl)
instance : ZeroOf Tryz.prog 141 [.string ByteArray.empty] := ZeroOf.of (by kernel_rfl)
instance : ZeroOf Tryz.prog 145 [.int .u8 0, .int .u8 0] := ZeroOf.of (by kernel_rfl)
instance : ZeroOf Tryz.prog 146 [.int .u8 0, .int .u8 0, .int .u8 0, .int .u8 0, .int .u8 0, .int .u8 0, .int .u8 0, .int .u8 0, .int .u8 0, .int .u8 0, .int .u8 0, .int .u8 0, .int .u8 0, .int .u8 0, .int .u8 0, .int .u8 0, .int .u8 0, .int .u8 0, .int .u8 0, .int .u8 0, .int .u8 0, .int .u8 0, .int .u8 0, .int .u8 0, .int .u8 0, .int .u8 0, .int .u8 0, .int .u8 0, .int .u8 0, .int .u8 0, .int .u8 0, .int .u8 0] := ZeroOf.of (by kernel_rfl)
instance : ZeroOf Tryz.prog 149 [.int .u8 0, .int .u8 0, .int .u8 0, .int .u8 0, .int .u8 0, .int .u8 0, .int .u8 0, .int .u8 0, .int .u8 0, .int .u8 0, .int .u8 0, .int .u8 0, .int .u8 0, .int .u8 0, .int .u8 0, .int .u8 0, .int .u8 0, .int .u8 0, .int .u8 0, .int .u8 0, .int .u8 0, .int .u8 0, .int .u8 0, .int .u8 0, .int .u8 0, .int .u8 0, .int .u8 0, .int .u8 0, .int .u8 0, .int .u8 0, .int .u8 0, .int .u8 0] := ZeroOf.of (by kernel_rfl)
instance : ZeroOf Tryz.prog 150 [.int .u8 0, .int .u8 0, .int .u8 0, .int .u8 0, .int .u8 0, .int .u8 0, .int .u8 0, .int .u8 0, .int .u8 0, .int .u8 0, .int .u8 0, .int .u8 0, .int .u8 0, .int .u8 0, .int .u8 0, .int .u8 0, .int .u8 0, .int .u8 0, .int .u8 0, .int .u8 0, .int .u8 0, .int .u8 0, .int .u8 0, .int .u8 0, .int .u8 0, .int .u8 0, .int .u8 0, .int .u8 0, .int .u8 0, .int .u8 0, .int .u8 0, .int .u8 0, .int .u8 0, .int .u8 0, .int .u8 0, .int .u8 0, .int .u8 0, .int .u8 0, .int .u8 0, .int .u8 0, .int .u8 0, .int .u8 0, .int .u8 0, .int .u8 0, .int .u8 0, .int .u8 0, .int .u8 0, .int .u8 0, .int .u8 0, .int .u8 0, .int .u8 0, .int .u8 0, .int .u8 0, .int .u8 0, .int .u8 0, .int .u8 0, .int .u8 0, .int .u8 0, .int .u8 0, .int .u8 0, .int .u8 0, .int .u8 0, .int .u8 0, .int .u8 0] := ZeroOf.of (by kernel_rfl)
instance : StructOf Tryz.prog 25 [(0, 1), (1, 1), (2, 1), (3, 1), (4, 1)] [.int .i64 0, .int .i64 0, .int .i64 0, .int .i64 0, .int .i64 0] := ⟨fun _ => by kernel_rfl⟩
instance : StructOf Tryz.prog 31 [(0, 1), (1, 1), (2, 1), (3, 1), (4, 1)] [.int .i64 0, .int .i64 0, .int .i64 0, .int .i64 0, .int .i64 0] := ⟨fun _ => by kernel_rfl⟩
instance : StructOf Tryz.prog 54 [(0, 1)] [.slice none 0 0] := ⟨fun _ => by kernel_rfl⟩
instance : StructOf Tryz.prog 69 [(0, 1), (1, 1), (2, 1)] [.string ByteArray.empty, .string ByteArray.empty, .bool false] := ⟨fun _ => by kernel_rfl⟩
instance : ArrayBuild Tryz.prog 76 3 [.string ByteArray.empty, .string ByteArray.empty, .bool false, .string ByteArray.empty, .string ByteArray.empty, .bool false, .string ByteArray.empty, .string ByteArray.empty, .bool false, .string ByteArray.empty, .string ByteArray.empty, .bool false, .string ByteArray.empty, .string ByteArray.empty, .bool false, .string ByteArray.empty, .string ByteArray.empty, .bool false, .string ByteArray.empty, .string ByteArray.empty, .bool false, .string ByteArray.empty, .string ByteArray.empty, .bool false, .string ByteArray.empty, .string ByteArray.empty, .bool false, .string ByteArray.empty, .string ByteArray.empty, .bool false, .string ByteArray.empty, .string ByteArray.empty, .bool false, .string ByteArray.empty, .string ByteArray.empty, .bool false, .string ByteArray.empty, .string ByteArray.empty, .bool false, .string ByteArray.empty, .string ByteArray.empty, .bool false, .string ByteArray.empty, .string ByteArray.empty, .bool false, .string ByteArray.empty, .string ByteArray.empty, .bool false, .string ByteArray.empty, .string ByteArray.empty, .bool false] := ⟨fun _ => by kernel_rfl⟩
instance : StructOf Tryz.prog 129 [(0, 1), (1, 1), (2, 1)] [.string ByteArray.empty, .string ByteArray.empty, .nilIface] := ⟨fun _ => by kernel_rfl⟩
instance : ArrayBuild Tryz.prog 133 1 [.int .u64 0, .int .u64 0, .int .u64 0, .int .u64 0, .int .u64 0, .int .u64 0, .int .u64 0, .int .u64 0, .int .u64 0, .int .u64 0, .int .u64 0, .int .u64 0, .int .u64 0, .int .u64 0, .int .u64 0, .int .u64 0, .int .u64 0, .int .u64 0, .int .u64 0, .int .u64 0] := ⟨fun _ => by kernel_rfl⟩
instance : StructOf Tryz.prog 141 [(0, 1)] [.string ByteArray.empty] := ⟨fun _ => by kernel_rfl⟩
instance : StructOf Tryz.prog 145 [(0, 1), (1, 1)] [.int .u8 0, .int .u8 0] := ⟨fun _ => by kernel_rfl⟩
instance : ArrayBuild Tryz.prog 146 2 [.int .u8 0, .int .u8 0, .int .u8 0, .int .u8 0, .int .u8 0, .int .u8 0, .int .u8 0, .int .u8 0, .int .u8 0, .int .u8 0, .int .u8 0, .int .u8 0, .int .u8 0, .int .u8 0, .int .u8 0, .int .u8 0, .int .u8 0, .int .u8 0, .int .u8 0, .int .u8 0, .int .u8 0, .int .u8 0, .int .u8 0, .int .u8 0, .int .u8 0, .int .u8 0, .int .u8 0, .int .u8 0, .int .u8 0, .int .u8 0, .int .u8 0, .int .u8 0] := ⟨fun _ => by kernel_rfl⟩
instance : ArrayBuild Tryz.prog 149 1 [.int .u8 0, .int .u8 0, .int .u8 0, .int .u8 0, .int .u8 0, .int .u8 0, .int .u8 0, .int .u8 0, .int .u8 0, .int .u8 0, .int .u8 0, .int .u8 0, .int .u8 0, .int .u8 0, .int .u8 0, .int .u8 0, .int .u8 0, .int .u8 0, .int .u8 0, .int .u8 0, .int .u8 0, .int .u8 0, .int .u8 0, .int .u8 0, .int .u8 0, .int .u8 0, .int .u8 0, .int .u8 0, .int .u8 0, .int .u8 0, .int .u8 0, .int .u8 0] := ⟨fun _ => by kernel_rfl⟩
instance : ArrayBuild Tryz.prog 150 1 [.int .u8 0, .int .u8 0, .int .u8 0, .int .u8 0, .int .u8 0, .int .u8 0, .int .u8 0, .int .u8 0, .int .u8 0, .int .u8 0, .int .u8 0, .int .u8 0, .int .u8 0, .int .u8 0, .int .u8 0, .int .u8 0, .int .u8 0, .int .u8 0, .int .u8 0, .int .u8 0, .int .u8 0, .int .u8 0, .int .u8 0, .int .u8 0, .int .u8 0, .int .u8 0, .int .u8 0, .int .u8 0, .int .u8 0, .int .u8 0, .int .u8 0, .int .u8 0, .int .u8 0, .int .u8 0, .int .u8 0, .int .u8 0, .int .u8 0, .int .u8 0, .int .u8 0, .int .u8 0, .int .u8 0, .int .u8 0, .int .u8 0, .int .u8 0, .int .u8 0, .int .u8 0, .int .u8 0, .int .u8 0, .int .u8 0, .int .u8 0, .int .u8 0, .int .u8 0, .int .u8 0, .int .u8 0, .int .u8 0, .int .u8 0, .int .u8 0, .int .u8 0, .int .u8 0, .int .u8 0, .int .u8 0, .int .u8 0, .int .u8 0, .int .u8 0] := ⟨fun _ => by kernel_rfl⟩
instance : FlatEq Tryz.prog 25 [.int .i64, .int .i64, .int .i64, .int .i64, .int .i64] := ⟨by kernel_rfl, by kernel_rfl, by kernel_rfl, by kernel_rfl⟩
instance : FlatEq Tryz.prog 31 [.int .i64, .int .i64, .int .i64, .int .i64, .int .i64] := ⟨by kernel_rfl, by kernel_rfl, by kernel_rfl, by kernel_rfl⟩
instance : UnderStr Tryz.prog 9 := ⟨by kernel_rfl⟩
instance : UnderStr Tryz.prog 10 := ⟨by kernel_rfl⟩
instance : UnderStr Tryz.prog 11 := ⟨by kernel_rfl⟩
instance : IntTy Tryz.prog 2 .i64 := ⟨by kernel_rfl⟩
instance : IntTy Tryz.prog 3 .i64 := ⟨by kernel_rfl⟩
instance : IntTy Tryz.prog 5 .u8 := ⟨by kernel_rfl⟩
instance : IntTy Tryz.prog 21 .i32 := ⟨by kernel_rfl⟩
instance : IntTy Tryz.prog 26 .i64 := ⟨by kernel_rfl⟩
instance : IntTy Tryz.prog 45 .u64 := ⟨by kernel_rfl⟩
instance : IntTy Tryz.prog 126 .u64 := ⟨by kernel_rfl⟩
instance : IntTy Tryz.prog 134 .u32 := ⟨by kernel_rfl⟩
instance : Callable Tryz.prog 2 := Callable.of (by kernel_rfl)
instance : Callable Tryz.prog 3 := Callable.of (by kernel_rfl)
instance : Callable Tryz.prog 4 := Callable.of (by kernel_rfl)
instance : Callable Tryz.prog 5 := Callable.of (by kernel_rfl)
instance : Callable Tryz.prog 6 := Callable.of (by kernel_rfl)
instance : Callable Tryz.prog 7 := Callable.of (by kernel_rfl)
instance : Callable Tryz.prog 8 := Callable.of (by kernel_rfl)
instance : Callable Tryz.prog 9 := Callable.of (by kernel_rfl)
instance : Callable Tryz.prog 10 := Callable.of (by kernel_rfl)
instance : Callable Tryz.prog 11 := Callable.of (by kernel_rfl)
instance : Callable Tryz.prog 12 := Callable.of (by kernel_rfl)
instance : Callable Tryz.prog 13 := Callable.of (by kernel_rfl)
instance : Callable Tryz.prog 14 := Callable.of (by kernel_rfl)
instance : Callable Tryz.prog 15 := Callable.of (by kernel_rfl)
instance : Callable Tryz.prog 16 := Callable.of (by kernel_rfl)
instance : Callable Tryz.prog 17 := Callable.of (by kernel_rfl)
instance : Callable Tryz.prog 18 := Callable.of (by kernel_rfl)
instance : Callable Tryz.prog 19 := Callable.of (by kernel_rfl)
instance : Callable Tryz.prog 20 := Callable.of (by kernel_rfl)
instance : Callable Tryz.prog 21 := Callable.of (by kernel_rfl)
instance : Callable Tryz.prog 22 := Callable.of (by kernel_rfl)
instance : Callable Tryz.prog 23 := Callable.of (by kernel_rfl)
instance : Callable Tryz.prog 24 := Callable.of (by kernel_rfl)
instance : Callable Tryz.prog 25 := Callable.of (by kernel_rfl)
instance : Callable Tryz.prog 26 := Callable.of (by kernel_rfl)
instance : Callable Tryz.prog 27 := Callable.of (by kernel_rfl)
instance : Callable Tryz.prog 28 := Callable.of (by kernel_rfl)
instance : Callable Tryz.prog 29 := Callable.of (by kernel_rfl)
instance : Callable Tryz.prog 30 := Callable.of (by kernel_rfl)
instance : Callable Tryz.prog 31 := Callable.of (by kernel_rfl)
instance : Callable Tryz.prog 32 := Callable.of (by kernel_rfl)
instance : Callable Tryz.prog 33 := Callable.of (by kernel_rfl)
instance : Callable Tryz.prog 34 := Callable.of (by kernel_rfl)
instance : Callable Tryz.prog 35 := Callable.of (by kernel_rfl)
instance : Callable Tryz.prog 36 := Callable.of (by kernel_rfl)
instance : Callable Tryz.prog 37 := Callable.of (by kernel_rfl)
instance : Callable Tryz.prog 38 := Callable.of (by kernel_rfl)
instance : Callable Tryz.prog 39 := Callable.of (by kernel_rfl)
instance : Callable Tryz.prog 40 := Callable.of (by kernel_rfl)
instance : Callable Tryz.prog 41 := Callable.of (by kernel_rfl)
instance : Callable Tryz.prog 42 := Callable.of (by kernel_rfl)
instance : Callable Tryz.prog 43 := Callable.of (by kernel_rfl)
instance : Callable Tryz.prog 44 := Callable.of (by kernel_rfl)
instance : Callable Tryz.prog 45 := Callable.of (by kernel_rfl)
instance : Callable Tryz.prog 46 := Callable.of (by kernel_rfl)
instance : Callable Tryz.prog 47 := Callable.of (by kernel_rfl)
instance : Callable Tryz.prog 48 := Callable.of (by kernel_rfl)
instance : Callable Tryz.prog 49 := Callable.of (by kernel_rfl)
instance : Callable Tryz.prog 50 := Callable.of (by kernel_rfl)
instance : Callable Tryz.prog 51 := Callable.of (by kernel_rfl)
instance : Callable Tryz.prog 52 := Callable.of (by kernel_rfl)
instance : Callable Tryz.prog 53 := Callable.of (by kernel_rfl)
instance : Callable Tryz.prog 54 := Callable.of (by kernel_rfl)
instance : Callable Tryz.prog 55 := Callable.of (by kernel_rfl)
instance : Callable Tryz.prog 56 := Callable.of (by kernel_rfl)
instance : Callable Tryz.prog 57 := Callable.of (by kernel_rfl)
instance : Callable Tryz.prog 58 := Callable.of (by kernel_rfl)
instance : Callable Tryz.prog 59 := Callable.of (by kernel_rfl)
instance : Callable Tryz.prog 60 := Callable.of (by kernel_rfl)
instance : Callable Tryz.prog 61 := Callable.of (by kernel_rfl)
instance : Callable Tryz.prog 62 := Callable.of (by kernel_rfl)
instance : Callable Tryz.prog 63 := Callable.of (by kernel_rfl)
instance : Callable Tryz.prog 64 := Callable.of (by kernel_rfl)
instance : Callable Tryz.prog 65 := Callable.of (by kernel_rfl)
instance : Callable Tryz.prog 66 := Callable.of (by kernel_rfl)
instance : Callable Tryz.prog 67 := Callable.of (by kernel_rfl)
instance : Callable Tryz.prog 68 := Callable.of (by kernel_rfl)
instance : Callable Tryz.prog 69 := Callable.of (by kernel_rfl)
instance : Callable Tryz.prog 70 := Callable.of (by kernel_rfl)
instance : Callable Tryz.prog 71 := Callable.of (by kernel_rfl)
instance : Callable Tryz.prog 72 := Callable.of (by kernel_rfl)
instance : Callable Tryz.prog 73 := Callable.of (by kernel_rfl)
instance : Callable Tryz.prog 74 := Callable.of (by kernel_rfl)
instance : Callable Tryz.prog 75 := Callable.of (by kernel_rfl)
instance : Callable Tryz.prog 76 := Callable.of (by kernel_rfl)
instance : Callable Tryz.prog 77 := Callable.of (by kernel_rfl)
instance : Callable Tryz.prog 78 := Callable.of (by kernel_rfl)
instance : Callable Tryz.prog 79 := Callable.of (by kernel_rfl)
instance : Callable Tryz.prog 80 := Callable.of (by kernel_rfl)
instance : Callable Tryz.prog 83 := Callable.of (by kernel_rfl)
instance : Callable Tryz.prog 84 := Callable.of (by kernel_rfl)
instance : Callable Tryz.prog 86 := Callable.of (by kernel_rfl)
instance : Callable Tryz.prog 87 := Callable.of (by kernel_rfl)
instance : Callable Tryz.prog 88 := Callable.of (by kernel_rfl)
instance : Callable Tryz.prog 89 := Callable.of (by kernel_rfl)
instance : Callable Tryz.prog 90 := Callable.of (by kernel_rfl)
instance : Callable Tryz.prog 91 := Callable.of (by kernel_rfl)
instance : Callable Tryz.prog 92 := Callable.of (by kernel_rfl)
instance : Callable Tryz.prog 93 := Callable.of (by kernel_rfl)
instance : Callable Tryz.prog 94 := Callable.of (by kernel_rfl)
instance : Callable Tryz.prog 95 := Callable.of (by kernel_rfl)
instance : Callable Tryz.prog 96 := Callable.of (by kernel_rfl)
instance : Callable Tryz.prog 98 := Callable.of (by kernel_rfl)
instance : Callable Tryz.prog 99 := Callable.of (by kernel_rfl)
instance : Callable Tryz.prog 100 := Callable.of (by kernel_rfl)
instance : Callable Tryz.prog 101 := Callable.of (by kernel_rfl)
instance : Callable Tryz.prog 102 := Callable.of (by kernel_rfl)
instance : Callable Tryz.prog 103 := Callable.of (by kernel_rfl)
instance : Callable Tryz.prog 105 := Callable.of (by kernel_rfl)
instance : Callable Tryz.prog 136 := Callable.of (by kernel_rfl)

end Go.Proofs.YtofgpppnknpblaaGreatDoor
