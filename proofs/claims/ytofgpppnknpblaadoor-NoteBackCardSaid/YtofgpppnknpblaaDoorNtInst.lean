/- Facts on the types and functions of the translation, by program. No condition. -/
import Derived.Test.YtofgpppnknpblaaDoorProg
import Derived.Test.YtofgpppnknpblaaDoorSL2
import Derived.Test.YtofgpppnknpblaaDoorSL3
namespace Go.Proofs.YtofgpppnknpblaaDoor
open Go Go.SL

instance : Mixed Tryd.prog := ⟨by kernel_rfl⟩
instance : UnderPtr Tryd.prog 43 := ⟨by kernel_rfl⟩
instance : UnderPtr Tryd.prog 92 := ⟨by kernel_rfl⟩
instance : UnderPtr Tryd.prog 103 := ⟨by kernel_rfl⟩
instance : PtrTo Tryd.prog 43 := PtrTo.of (te := 41) (by kernel_rfl) (by kernel_rfl)
instance : PtrTo Tryd.prog 92 := PtrTo.of (te := 95) (by kernel_rfl) (by kernel_rfl)
instance : PtrTo Tryd.prog 103 := PtrTo.of (te := 5) (by kernel_rfl) (by kernel_rfl)
instance : UnderBool Tryd.prog 4 := ⟨by kernel_rfl⟩
instance : FieldOff Tryd.prog 23 0 0 := FieldOff.of (by kernel_rfl)
instance : FieldOff Tryd.prog 23 1 1 := FieldOff.of (by kernel_rfl)
instance : FieldOff Tryd.prog 23 2 2 := FieldOff.of (by kernel_rfl)
instance : FieldOff Tryd.prog 23 3 3 := FieldOff.of (by kernel_rfl)
instance : FieldOff Tryd.prog 23 4 4 := FieldOff.of (by kernel_rfl)
instance : FieldOff Tryd.prog 26 0 0 := FieldOff.of (by kernel_rfl)
instance : FieldOff Tryd.prog 26 1 1 := FieldOff.of (by kernel_rfl)
instance : FieldOff Tryd.prog 26 2 2 := FieldOff.of (by kernel_rfl)
instance : FieldOff Tryd.prog 26 3 3 := FieldOff.of (by kernel_rfl)
instance : FieldOff Tryd.prog 26 4 4 := FieldOff.of (by kernel_rfl)
instance : FieldOff Tryd.prog 41 0 0 := FieldOff.of (by kernel_rfl)
instance : FieldOff Tryd.prog 61 0 0 := FieldOff.of (by kernel_rfl)
instance : FieldOff Tryd.prog 61 1 1 := FieldOff.of (by kernel_rfl)
instance : FieldOff Tryd.prog 61 2 2 := FieldOff.of (by kernel_rfl)
instance : FieldOff Tryd.prog 95 0 0 := FieldOff.of (by kernel_rfl)
instance : FieldOff Tryd.prog 95 1 1 := FieldOff.of (by kernel_rfl)
instance : FieldOff Tryd.prog 145 0 0 := FieldOff.of (by kernel_rfl)
instance : FieldOff Tryd.prog 145 1 1 := FieldOff.of (by kernel_rfl)
instance : SliceOf Tryd.prog 24 3 1 8 [.int .i64 0] := SliceOf.of (by kernel_rfl) (by kernel_rfl) rfl
instance : SliceOf Tryd.prog 38 39 1 24 [.slice none 0 0] := SliceOf.of (by kernel_rfl) (by kernel_rfl) rfl
instance : SliceOf Tryd.prog 39 23 5 40 [.int .i64 0, .int .i64 0, .int .i64 0, .int .i64 0, .int .i64 0] := SliceOf.of (by kernel_rfl) (by kernel_rfl) rfl
instance : SliceOf Tryd.prog 42 26 5 40 [.int .i64 0, .int .i64 0, .int .i64 0, .int .i64 0, .int .i64 0] := SliceOf.of (by kernel_rfl) (by kernel_rfl) rfl
instance : SliceOf Tryd.prog 69 9 1 16 [.string ByteArray.empty] := SliceOf.of (by kernel_rfl) (by kernel_rfl) rfl
instance : SliceOf Tryd.prog 84 61 3 40 [.string ByteArray.empty, .string ByteArray.empty, .bool false] := SliceOf.of (by kernel_rfl) (by kernel_rfl) rfl
instance : SliceOf Tryd.prog 93 5 1 1 [.int .u8 0] := SliceOf.of (by kernel_rfl) (by kernel_rfl) rfl
instance : ArrayOf Tryd.prog 81 17 61 3 := ArrayOf.of (by kernel_rfl) (by kernel_rfl)
instance : ArrayOf Tryd.prog 112 24 5 1 := ArrayOf.of (by kernel_rfl) (by kernel_rfl)
instance : ArrayOf Tryd.prog 133 20 73 1 := ArrayOf.of (by kernel_rfl) (by kernel_rfl)
instance : ArrayOf Tryd.prog 135 65 5 1 := ArrayOf.of (by kernel_rfl) (by kernel_rfl)
instance : ArrayOf Tryd.prog 143 256 5 1 := ArrayOf.of (by kernel_rfl) (by kernel_rfl)
instance : ArrayOf Tryd.prog 146 16 145 2 := ArrayOf.of (by kernel_rfl) (by kernel_rfl)
instance : ArrayOf Tryd.prog 149 32 5 1 := ArrayOf.of (by kernel_rfl) (by kernel_rfl)
instance : ArrayOf Tryd.prog 150 64 5 1 := ArrayOf.of (by kernel_rfl) (by kernel_rfl)
instance : Plain Tryd.prog 3 := Plain.of (by kernel_rfl) (by kernel_rfl)
instance : Plain Tryd.prog 4 := Plain.of (by kernel_rfl) (by kernel_rfl)
instance : Plain Tryd.prog 5 := Plain.of (by kernel_rfl) (by kernel_rfl)
instance : Plain Tryd.prog 9 := Plain.of (by kernel_rfl) (by kernel_rfl)
instance : Plain Tryd.prog 24 := Plain.of (by kernel_rfl) (by kernel_rfl)
instance : Plain Tryd.prog 33 := Plain.of (by kernel_rfl) (by kernel_rfl)
instance : Plain Tryd.prog 39 := Plain.of (by kernel_rfl) (by kernel_rfl)
instance : Plain Tryd.prog 69 := Plain.of (by kernel_rfl) (by kernel_rfl)
instance : Plain Tryd.prog 73 := Plain.of (by kernel_rfl) (by kernel_rfl)
instance : Plain Tryd.prog 87 := Plain.of (by kernel_rfl) (by kernel_rfl)
instance : Plain Tryd.prog 92 := Plain.of (by kernel_rfl) (by kernel_rfl)
instance : Plain Tryd.prog 93 := Plain.of (by kernel_rfl) (by kernel_rfl)
instance : Aggr Tryd.prog 23 5 := Aggr.of (by kernel_rfl) (by kernel_rfl)
instance : Aggr Tryd.prog 26 5 := Aggr.of (by kernel_rfl) (by kernel_rfl)
instance : Aggr Tryd.prog 61 3 := Aggr.of (by kernel_rfl) (by kernel_rfl)
instance : Aggr Tryd.prog 81 51 := Aggr.of (by kernel_rfl) (by kernel_rfl)
instance : Aggr Tryd.prog 133 20 := Aggr.of (by kernel_rfl) (by kernel_rfl)
instance : Aggr Tryd.prog 145 2 := Aggr.of (by kernel_rfl) (by kernel_rfl)
instance : Aggr Tryd.prog 146 32 := Aggr.of (by kernel_rfl) (by kernel_rfl)
instance : Aggr Tryd.prog 149 32 := Aggr.of (by kernel_rfl) (by kernel_rfl)
instance : Aggr Tryd.prog 150 64 := Aggr.of (by kernel_rfl) (by kernel_rfl)
instance : ZeroOf Tryd.prog 3 [.int .i64 0] := ZeroOf.of (by kernel_rfl)
instance : ZeroOf Tryd.prog 23 [.int .i64 0, .int .i64 0, .int .i64 0, .int .i64 0, .int .i64 0] := ZeroOf.of (by kernel_rfl)
instance : ZeroOf Tryd.prog 24 [.slice none 0 0] := ZeroOf.of (by kernel_rfl)
instance : ZeroOf Tryd.prog 26 [.int .i64 0, .int .i64 0, .int .i64 0, .int .i64 0, .int .i64 0] := ZeroOf.of (by kernel_rfl)
instance : ZeroOf Tryd.prog 33 [.nilFunc] := ZeroOf.of (by kernel_rfl)
instance : ZeroOf Tryd.prog 41 [.slice none 0 0] := ZeroOf.of (by kernel_rfl)
instance : ZeroOf Tryd.prog 61 [.string ByteArray.empty, .string ByteArray.empty, .bool false] := ZeroOf.of (by kernel_rfl)
instance : ZeroOf Tryd.prog 69 [.slice none 0 0] := ZeroOf.of (by kernel_rfl)
instance : ZeroOf Tryd.prog 81 [.string ByteArray.empty, .string ByteArray.empty, .bool false, .string ByteArray.empty, .string ByteArray.empty, .bool false, .string ByteArray.empty, .string ByteArray.empty, .bool false, .string ByteArray.empty, .string ByteArray.empty, .bool false, .string ByteArray.empty, .string ByteArray.empty, .bool false, .string ByteArray.empty, .string ByteArray.empty, .bool false, .string ByteArray.empty, .string ByteArray.empty, .bool false, .string ByteArray.empty, .string ByteArray.empty, .bool false, .string ByteArray.empty, .string ByteArray.empty, .bool false, .string ByteArray.empty, .string ByteArray.empty, .bool false, .string ByteArray.empty, .string ByteArray.empty, .bool false, .string ByteArray.empty, .string ByteArray.empty, .bool false, .string ByteArray.empty, .string ByteArray.empty, .bool false, .string ByteArray.empty, .string ByteArray.empty, .bool false, .string ByteArray.empty, .string ByteArray.empty, .bool false, .string ByteArray.empty, .string ByteArray.empty, .bool false, .string ByteArray.empty, .string ByteArray.empty, .bool false] := ZeroOf.of (by kernel_rfl)
instance : ZeroOf Tryd.prog 95 [.pointer none, .slice none 0 0] := ZeroOf.of (by kernel_rfl)
instance : ZeroOf Tryd.prog 112 [.int .u8 0, .int .u8 0, .int .u8 0, .int .u8 0, .int .u8 0, .int .u8 0, .int .u8 0, .int .u8 0, .int .u8 0, .int .u8 0, .int .u8 0, .int .u8 0, .int .u8 0, .int .u8 0, .int .u8 0, .int .u8 0, .int .u8 0, .int .u8 0, .int .u8 0, .int .u8 0, .int .u8 0, .int .u8 0, .int .u8 0, .int .u8 0] := ZeroOf.of (by kernel_rfl)
instance : ZeroOf Tryd.prog 129 [.string ByteArray.empty, .string ByteArray.empty, .nilIface] := ZeroOf.of (by kernel_rfl)
instance : ZeroOf Tryd.prog 133 [.int .u64 0, .int .u64 0, .int .u64 0, .int .u64 0, .int .u64 0, .int .u64 0, .int .u64 0, .int .u64 0, .int .u64 0, .int .u64 0, .int .u64 0, .int .u64 0, .int .u64 0, .int .u64 0, .int .u64 0, .int .u64 0, .int .u64 0, .int .u64 0, .int .u64 0, .int .u64 0] := ZeroOf.of (by kernel_rfl)
instance : ZeroOf Tryd.prog 135 [.int .u8 0, .int .u8 0, .int .u8 0, .int .u8 0, .int .u8 0, .int .u8 0, .int .u8 0, .int .u8 0, .int .u8 0, .int .u8 0, .int .u8 0, .int .u8 0, .int .u8 0, .int .u8 0, .int .u8 0, .int .u8 0, .int .u8 0, .int .u8 0, .int .u8 0, .int .u8 0, .int .u8 0, .int .u8 0, .int .u8 0, .int .u8 0, .int .u8 0, .int .u8 0, .int .u8 0, .int .u8 0, .int .u8 0, .int .u8 0, .int .u8 0, .int .u8 0, .int .u8 0, .int .u8 0, .int .u8 0, .int .u8 0, .int .u8 0, .int .u8 0, .int .u8 0, .int .u8 0, .int .u8 0, .int .u8 0, .int .u8 0, .int .u8 0, .int .u8 0, .int .u8 0, .int .u8 0, .int .u8 0, .int .u8 0, .int .u8 0, .int .u8 0, .int .u8 0, .int .u8 0, .int .u8 0, .int .u8 0, .int .u8 0, .int .u8 0, .int .u8 0, .int .u8 0, .int .u8 0, .int .u8 0, .int .u8 0, .int .u8 0, .int .u8 0, .int .u8 0] := ZeroOf.of (by kernel_rfl)
instance : ZeroOf Tryd.prog 141 [.string ByteArray.empty] := ZeroOf.of (by kernel_rfl)
instance : ZeroOf Tryd.prog 145 [.int .u8 0, .int .u8 0] := ZeroOf.of (by kernel_rfl)
instance : ZeroOf Tryd.prog 146 [.int .u8 0, .int .u8 0, .int .u8 0, .int .u8 0, .int .u8 0, .int .u8 0, .int .u8 0, .int .u8 0, .int .u8 0, .int .u8 0, .int .u8 0, .int .u8 0, .int .u8 0, .int .u8 0, .int .u8 0, .int .u8 0, .int .u8 0, .int .u8 0, .int .u8 0, .int .u8 0, .int .u8 0, .int .u8 0, .int .u8 0, .int .u8 0, .int .u8 0, .int .u8 0, .int .u8 0, .int .u8 0, .int .u8 0, .int .u8 0, .int .u8 0, .int .u8 0] := ZeroOf.of (by kernel_rfl)
instance : ZeroOf Tryd.prog 149 [.int .u8 0, .int .u8 0, .int .u8 0, .int .u8 0, .int .u8 0, .int .u8 0, .int .u8 0, .int .u8 0, .int .u8 0, .int .u8 0, .int .u8 0, .int .u8 0, .int .u8 0, .int .u8 0, .int .u8 0, .int .u8 0, .int .u8 0, .int .u8 0, .int .u8 0, .int .u8 0, .int .u8 0, .int .u8 0, .int .u8 0, .int .u8 0, .int .u8 0, .int .u8 0, .int .u8 0, .int .u8 0, .int .u8 0, .int .u8 0, .int .u8 0, .int .u8 0] := ZeroOf.of (by kernel_rfl)
instance : ZeroOf Tryd.prog 150 [.int .u8 0, .int .u8 0, .int .u8 0, .int .u8 0, .int .u8 0, .int .u8 0, .int .u8 0, .int .u8 0, .int .u8 0, .int .u8 0, .int .u8 0, .int .u8 0, .int .u8 0, .int .u8 0, .int .u8 0, .int .u8 0, .int .u8 0, .int .u8 0, .int .u8 0, .int .u8 0, .int .u8 0, .int .u8 0, .int .u8 0, .int .u8 0, .int .u8 0, .int .u8 0, .int .u8 0, .int .u8 0, .int .u8 0, .int .u8 0, .int .u8 0, .int .u8 0, .int .u8 0, .int .u8 0, .int .u8 0, .int .u8 0, .int .u8 0, .int .u8 0, .int .u8 0, .int .u8 0, .int .u8 0, .int .u8 0, .int .u8 0, .int .u8 0, .int .u8 0, .int .u8 0, .int .u8 0, .int .u8 0, .int .u8 0, .int .u8 0, .int .u8 0, .int .u8 0, .int .u8 0, .int .u8 0, .int .u8 0, .int .u8 0, .int .u8 0, .int .u8 0, .int .u8 0, .int .u8 0, .int .u8 0, .int .u8 0, .int .u8 0, .int .u8 0] := ZeroOf.of (by kernel_rfl)
instance : StructOf Tryd.prog 23 [(0, 1), (1, 1), (2, 1), (3, 1), (4, 1)] [.int .i64 0, .int .i64 0, .int .i64 0, .int .i64 0, .int .i64 0] := ⟨fun _ => by kernel_rfl⟩
instance : StructOf Tryd.prog 26 [(0, 1), (1, 1), (2, 1), (3, 1), (4, 1)] [.int .i64 0, .int .i64 0, .int .i64 0, .int .i64 0, .int .i64 0] := ⟨fun _ => by kernel_rfl⟩
instance : StructOf Tryd.prog 41 [(0, 1)] [.slice none 0 0] := ⟨fun _ => by kernel_rfl⟩
instance : StructOf Tryd.prog 61 [(0, 1), (1, 1), (2, 1)] [.string ByteArray.empty, .string ByteArray.empty, .bool false] := ⟨fun _ => by kernel_rfl⟩
instance : ArrayBuild Tryd.prog 81 3 [.string ByteArray.empty, .string ByteArray.empty, .bool false, .string ByteArray.empty, .string ByteArray.empty, .bool false, .string ByteArray.empty, .string ByteArray.empty, .bool false, .string ByteArray.empty, .string ByteArray.empty, .bool false, .string ByteArray.empty, .string ByteArray.empty, .bool false, .string ByteArray.empty, .string ByteArray.empty, .bool false, .string ByteArray.empty, .string ByteArray.empty, .bool false, .string ByteArray.empty, .string ByteArray.empty, .bool false, .string ByteArray.empty, .string ByteArray.empty, .bool false, .string ByteArray.empty, .string ByteArray.empty, .bool false, .string ByteArray.empty, .string ByteArray.empty, .bool false, .string ByteArray.empty, .string ByteArray.empty, .bool false, .string ByteArray.empty, .string ByteArray.empty, .bool false, .string ByteArray.empty, .string ByteArray.empty, .bool false, .string ByteArray.empty, .string ByteArray.empty, .bool false, .string ByteArray.empty, .string ByteArray.empty, .bool false, .string ByteArray.empty, .string ByteArray.empty, .bool false] := ⟨fun _ => by kernel_rfl⟩
instance : StructOf Tryd.prog 129 [(0, 1), (1, 1), (2, 1)] [.string ByteArray.empty, .string ByteArray.empty, .nilIface] := ⟨fun _ => by kernel_rfl⟩
instance : ArrayBuild Tryd.prog 133 1 [.int .u64 0, .int .u64 0, .int .u64 0, .int .u64 0, .int .u64 0, .int .u64 0, .int .u64 0, .int .u64 0, .int .u64 0, .int .u64 0, .int .u64 0, .int .u64 0, .int .u64 0, .int .u64 0, .int .u64 0, .int .u64 0, .int .u64 0, .int .u64 0, .int .u64 0, .int .u64 0] := ⟨fun _ => by kernel_rfl⟩
instance : StructOf Tryd.prog 141 [(0, 1)] [.string ByteArray.empty] := ⟨fun _ => by kernel_rfl⟩
instance : StructOf Tryd.prog 145 [(0, 1), (1, 1)] [.int .u8 0, .int .u8 0] := ⟨fun _ => by kernel_rfl⟩
instance : ArrayBuild Tryd.prog 146 2 [.int .u8 0, .int .u8 0, .int .u8 0, .int .u8 0, .int .u8 0, .int .u8 0, .int .u8 0, .int .u8 0, .int .u8 0, .int .u8 0, .int .u8 0, .int .u8 0, .int .u8 0, .int .u8 0, .int .u8 0, .int .u8 0, .int .u8 0, .int .u8 0, .int .u8 0, .int .u8 0, .int .u8 0, .int .u8 0, .int .u8 0, .int .u8 0, .int .u8 0, .int .u8 0, .int .u8 0, .int .u8 0, .int .u8 0, .int .u8 0, .int .u8 0, .int .u8 0] := ⟨fun _ => by kernel_rfl⟩
instance : ArrayBuild Tryd.prog 149 1 [.int .u8 0, .int .u8 0, .int .u8 0, .int .u8 0, .int .u8 0, .int .u8 0, .int .u8 0, .int .u8 0, .int .u8 0, .int .u8 0, .int .u8 0, .int .u8 0, .int .u8 0, .int .u8 0, .int .u8 0, .int .u8 0, .int .u8 0, .int .u8 0, .int .u8 0, .int .u8 0, .int .u8 0, .int .u8 0, .int .u8 0, .int .u8 0, .int .u8 0, .int .u8 0, .int .u8 0, .int .u8 0, .int .u8 0, .int .u8 0, .int .u8 0, .int .u8 0] := ⟨fun _ => by kernel_rfl⟩
instance : ArrayBuild Tryd.prog 150 1 [.int .u8 0, .int .u8 0, .int .u8 0, .int .u8 0, .int .u8 0, .int .u8 0, .int .u8 0, .int .u8 0, .int .u8 0, .int .u8 0, .int .u8 0, .int .u8 0, .int .u8 0, .int .u8 0, .int .u8 0, .int .u8 0, .int .u8 0, .int .u8 0, .int .u8 0, .int .u8 0, .int .u8 0, .int .u8 0, .int .u8 0, .int .u8 0, .int .u8 0, .int .u8 0, .int .u8 0, .int .u8 0, .int .u8 0, .int .u8 0, .int .u8 0, .int .u8 0, .int .u8 0, .int .u8 0, .int .u8 0, .int .u8 0, .int .u8 0, .int .u8 0, .int .u8 0, .int .u8 0, .int .u8 0, .int .u8 0, .int .u8 0, .int .u8 0, .int .u8 0, .int .u8 0, .int .u8 0, .int .u8 0, .int .u8 0, .int .u8 0, .int .u8 0, .int .u8 0, .int .u8 0, .int .u8 0, .int .u8 0, .int .u8 0, .int .u8 0, .int .u8 0, .int .u8 0, .int .u8 0, .int .u8 0, .int .u8 0, .int .u8 0, .int .u8 0] := ⟨fun _ => by kernel_rfl⟩
instance : FlatEq Tryd.prog 23 [.int .i64, .int .i64, .int .i64, .int .i64, .int .i64] := ⟨by kernel_rfl, by kernel_rfl, by kernel_rfl, by kernel_rfl⟩
instance : FlatEq Tryd.prog 26 [.int .i64, .int .i64, .int .i64, .int .i64, .int .i64] := ⟨by kernel_rfl, by kernel_rfl, by kernel_rfl, by kernel_rfl⟩
instance : UnderStr Tryd.prog 9 := ⟨by kernel_rfl⟩
instance : UnderStr Tryd.prog 10 := ⟨by kernel_rfl⟩
instance : UnderStr Tryd.prog 11 := ⟨by kernel_rfl⟩
instance : IntTy Tryd.prog 2 .i64 := ⟨by kernel_rfl⟩
instance : IntTy Tryd.prog 3 .i64 := ⟨by kernel_rfl⟩
instance : IntTy Tryd.prog 5 .u8 := ⟨by kernel_rfl⟩
instance : IntTy Tryd.prog 21 .i32 := ⟨by kernel_rfl⟩
instance : IntTy Tryd.prog 28 .i64 := ⟨by kernel_rfl⟩
instance : IntTy Tryd.prog 73 .u64 := ⟨by kernel_rfl⟩
instance : IntTy Tryd.prog 126 .u64 := ⟨by kernel_rfl⟩
instance : IntTy Tryd.prog 134 .u32 := ⟨by kernel_rfl⟩
instance : Callable Tryd.prog 2 := Callable.of (by kernel_rfl)
instance : Callable Tryd.prog 3 := Callable.of (by kernel_rfl)
instance : Callable Tryd.prog 4 := Callable.of (by kernel_rfl)
instance : Callable Tryd.prog 5 := Callable.of (by kernel_rfl)
instance : Callable Tryd.prog 6 := Callable.of (by kernel_rfl)
instance : Callable Tryd.prog 7 := Callable.of (by kernel_rfl)
instance : Callable Tryd.prog 8 := Callable.of (by kernel_rfl)
instance : Callable Tryd.prog 9 := Callable.of (by kernel_rfl)
instance : Callable Tryd.prog 10 := Callable.of (by kernel_rfl)
instance : Callable Tryd.prog 11 := Callable.of (by kernel_rfl)
instance : Callable Tryd.prog 12 := Callable.of (by kernel_rfl)
instance : Callable Tryd.prog 13 := Callable.of (by kernel_rfl)
instance : Callable Tryd.prog 14 := Callable.of (by kernel_rfl)
instance : Callable Tryd.prog 15 := Callable.of (by kernel_rfl)
instance : Callable Tryd.prog 16 := Callable.of (by kernel_rfl)
instance : Callable Tryd.prog 17 := Callable.of (by kernel_rfl)
instance : Callable Tryd.prog 18 := Callable.of (by kernel_rfl)
instance : Callable Tryd.prog 19 := Callable.of (by kernel_rfl)
instance : Callable Tryd.prog 20 := Callable.of (by kernel_rfl)
instance : Callable Tryd.prog 21 := Callable.of (by kernel_rfl)
instance : Callable Tryd.prog 22 := Callable.of (by kernel_rfl)
instance : Callable Tryd.prog 23 := Callable.of (by kernel_rfl)
instance : Callable Tryd.prog 24 := Callable.of (by kernel_rfl)
instance : Callable Tryd.prog 25 := Callable.of (by kernel_rfl)
instance : Callable Tryd.prog 26 := Callable.of (by kernel_rfl)
instance : Callable Tryd.prog 27 := Callable.of (by kernel_rfl)
instance : Callable Tryd.prog 28 := Callable.of (by kernel_rfl)
instance : Callable Tryd.prog 29 := Callable.of (by kernel_rfl)
instance : Callable Tryd.prog 30 := Callable.of (by kernel_rfl)
instance : Callable Tryd.prog 31 := Callable.of (by kernel_rfl)
instance : Callable Tryd.prog 32 := Callable.of (by kernel_rfl)
instance : Callable Tryd.prog 33 := Callable.of (by kernel_rfl)
instance : Callable Tryd.prog 34 := Callable.of (by kernel_rfl)
instance : Callable Tryd.prog 35 := Callable.of (by kernel_rfl)
instance : Callable Tryd.prog 36 := Callable.of (by kernel_rfl)
instance : Callable Tryd.prog 37 := Callable.of (by kernel_rfl)
instance : Callable Tryd.prog 38 := Callable.of (by kernel_rfl)
instance : Callable Tryd.prog 39 := Callable.of (by kernel_rfl)
instance : Callable Tryd.prog 40 := Callable.of (by kernel_rfl)
instance : Callable Tryd.prog 41 := Callable.of (by kernel_rfl)
instance : Callable Tryd.prog 42 := Callable.of (by kernel_rfl)
instance : Callable Tryd.prog 43 := Callable.of (by kernel_rfl)
instance : Callable Tryd.prog 44 := Callable.of (by kernel_rfl)
instance : Callable Tryd.prog 45 := Callable.of (by kernel_rfl)
instance : Callable Tryd.prog 46 := Callable.of (by kernel_rfl)
instance : Callable Tryd.prog 47 := Callable.of (by kernel_rfl)
instance : Callable Tryd.prog 48 := Callable.of (by kernel_rfl)
instance : Callable Tryd.prog 49 := Callable.of (by kernel_rfl)
instance : Callable Tryd.prog 50 := Callable.of (by kernel_rfl)
instance : Callable Tryd.prog 51 := Callable.of (by kernel_rfl)
instance : Callable Tryd.prog 52 := Callable.of (by kernel_rfl)
instance : Callable Tryd.prog 53 := Callable.of (by kernel_rfl)
instance : Callable Tryd.prog 54 := Callable.of (by kernel_rfl)
instance : Callable Tryd.prog 55 := Callable.of (by kernel_rfl)
instance : Callable Tryd.prog 56 := Callable.of (by kernel_rfl)
instance : Callable Tryd.prog 57 := Callable.of (by kernel_rfl)
instance : Callable Tryd.prog 58 := Callable.of (by kernel_rfl)
instance : Callable Tryd.prog 59 := Callable.of (by kernel_rfl)
instance : Callable Tryd.prog 60 := Callable.of (by kernel_rfl)
instance : Callable Tryd.prog 61 := Callable.of (by kernel_rfl)
instance : Callable Tryd.prog 62 := Callable.of (by kernel_rfl)
instance : Callable Tryd.prog 63 := Callable.of (by kernel_rfl)
instance : Callable Tryd.prog 64 := Callable.of (by kernel_rfl)
instance : Callable Tryd.prog 65 := Callable.of (by kernel_rfl)
instance : Callable Tryd.prog 66 := Callable.of (by kernel_rfl)
instance : Callable Tryd.prog 67 := Callable.of (by kernel_rfl)
instance : Callable Tryd.prog 68 := Callable.of (by kernel_rfl)
instance : Callable Tryd.prog 69 := Callable.of (by kernel_rfl)
instance : Callable Tryd.prog 70 := Callable.of (by kernel_rfl)
instance : Callable Tryd.prog 71 := Callable.of (by kernel_rfl)
instance : Callable Tryd.prog 72 := Callable.of (by kernel_rfl)
instance : Callable Tryd.prog 73 := Callable.of (by kernel_rfl)
instance : Callable Tryd.prog 74 := Callable.of (by kernel_rfl)
instance : Callable Tryd.prog 75 := Callable.of (by kernel_rfl)
instance : Callable Tryd.prog 76 := Callable.of (by kernel_rfl)
instance : Callable Tryd.prog 77 := Callable.of (by kernel_rfl)
instance : Callable Tryd.prog 78 := Callable.of (by kernel_rfl)
instance : Callable Tryd.prog 79 := Callable.of (by kernel_rfl)
instance : Callable Tryd.prog 82 := Callable.of (by kernel_rfl)
instance : Callable Tryd.prog 83 := Callable.of (by kernel_rfl)
instance : Callable Tryd.prog 85 := Callable.of (by kernel_rfl)
instance : Callable Tryd.prog 86 := Callable.of (by kernel_rfl)
instance : Callable Tryd.prog 87 := Callable.of (by kernel_rfl)
instance : Callable Tryd.prog 88 := Callable.of (by kernel_rfl)
instance : Callable Tryd.prog 89 := Callable.of (by kernel_rfl)
instance : Callable Tryd.prog 90 := Callable.of (by kernel_rfl)
instance : Callable Tryd.prog 91 := Callable.of (by kernel_rfl)
instance : Callable Tryd.prog 92 := Callable.of (by kernel_rfl)
instance : Callable Tryd.prog 93 := Callable.of (by kernel_rfl)
instance : Callable Tryd.prog 94 := Callable.of (by kernel_rfl)
instance : Callable Tryd.prog 95 := Callable.of (by kernel_rfl)
instance : Callable Tryd.prog 97 := Callable.of (by kernel_rfl)
instance : Callable Tryd.prog 98 := Callable.of (by kernel_rfl)
instance : Callable Tryd.prog 99 := Callable.of (by kernel_rfl)
instance : Callable Tryd.prog 100 := Callable.of (by kernel_rfl)
instance : Callable Tryd.prog 101 := Callable.of (by kernel_rfl)
instance : Callable Tryd.prog 102 := Callable.of (by kernel_rfl)
instance : Callable Tryd.prog 104 := Callable.of (by kernel_rfl)
instance : Callable Tryd.prog 135 := Callable.of (by kernel_rfl)

end Go.Proofs.YtofgpppnknpblaaDoor
