/- Facts on the types and functions of the translation, by program. No condition. -/
import Derived.Test.YtdmfojjpanndoaaDoorProg
import Derived.Test.YtdmfojjpanndoaaDoorSLDraw3
import Derived.Test.YtdmfojjpanndoaaDoorSLPtr
import Derived.Test.YtdmfojjpanndoaaDoorSLMap
import Derived.Test.YtdmfojjpanndoaaDoorSLFlat
import Derived.Test.YtdmfojjpanndoaaDoorSLConv
namespace Go.Proofs.YtdmfojjpanndoaaDoor
open Go Go.SL

instance : Mixed Tryd.prog := ⟨by kernel_rfl⟩
instance : UnderBool Tryd.prog 4 := ⟨by kernel_rfl⟩
instance : FieldOff Tryd.prog 27 0 0 := FieldOff.of (by kernel_rfl)
instance : FieldOff Tryd.prog 27 1 1 := FieldOff.of (by kernel_rfl)
instance : FieldOff Tryd.prog 55 0 0 := FieldOff.of (by kernel_rfl)
instance : FieldOff Tryd.prog 55 1 1 := FieldOff.of (by kernel_rfl)
instance : SliceOf Tryd.prog 23 3 1 8 [.int .i64 0] := SliceOf.of (by kernel_rfl) (by kernel_rfl) rfl
instance : SliceOf Tryd.prog 44 27 2 8 [.int .u32 0, .int .u32 0] := SliceOf.of (by kernel_rfl) (by kernel_rfl) rfl
instance : SliceOf Tryd.prog 47 25 1 4 [.int .u32 0] := SliceOf.of (by kernel_rfl) (by kernel_rfl) rfl
instance : SliceOf Tryd.prog 65 5 1 1 [.int .u8 0] := SliceOf.of (by kernel_rfl) (by kernel_rfl) rfl
instance : ArrayOf Tryd.prog 56 5 55 2 := ArrayOf.of (by kernel_rfl) (by kernel_rfl)
instance : ArrayOf Tryd.prog 62 24 5 1 := ArrayOf.of (by kernel_rfl) (by kernel_rfl)
instance : ArrayOf Tryd.prog 70 20 22 1 := ArrayOf.of (by kernel_rfl) (by kernel_rfl)
instance : ArrayOf Tryd.prog 71 65 5 1 := ArrayOf.of (by kernel_rfl) (by kernel_rfl)
instance : ArrayOf Tryd.prog 74 32 5 1 := ArrayOf.of (by kernel_rfl) (by kernel_rfl)
instance : ArrayOf Tryd.prog 75 64 5 1 := ArrayOf.of (by kernel_rfl) (by kernel_rfl)
instance : Plain Tryd.prog 3 := Plain.of (by kernel_rfl) (by kernel_rfl)
instance : Plain Tryd.prog 5 := Plain.of (by kernel_rfl) (by kernel_rfl)
instance : Plain Tryd.prog 22 := Plain.of (by kernel_rfl) (by kernel_rfl)
instance : Plain Tryd.prog 25 := Plain.of (by kernel_rfl) (by kernel_rfl)
instance : Plain Tryd.prog 52 := Plain.of (by kernel_rfl) (by kernel_rfl)
instance : Plain Tryd.prog 53 := Plain.of (by kernel_rfl) (by kernel_rfl)
instance : Aggr Tryd.prog 27 2 := Aggr.of (by kernel_rfl) (by kernel_rfl)
instance : Aggr Tryd.prog 55 2 := Aggr.of (by kernel_rfl) (by kernel_rfl)
instance : Aggr Tryd.prog 56 10 := Aggr.of (by kernel_rfl) (by kernel_rfl)
instance : Aggr Tryd.prog 70 20 := Aggr.of (by kernel_rfl) (by kernel_rfl)
instance : Aggr Tryd.prog 74 32 := Aggr.of (by kernel_rfl) (by kernel_rfl)
instance : Aggr Tryd.prog 75 64 := Aggr.of (by kernel_rfl) (by kernel_rfl)
instance : ZeroOf Tryd.prog 27 [.int .u32 0, .int .u32 0] := ZeroOf.of (by kernel_rfl)
instance : ZeroOf Tryd.prog 55 [.nilFunc, .nilFunc] := ZeroOf.of (by kernel_rfl)
instance : ZeroOf Tryd.prog 56 [.nilFunc, .nilFunc, .nilFunc, .nilFunc, .nilFunc, .nilFunc, .nilFunc, .nilFunc, .nilFunc, .nilFunc] := ZeroOf.of (by kernel_rfl)
instance : ZeroOf Tryd.prog 62 [.int .u8 0, .int .u8 0, .int .u8 0, .int .u8 0, .int .u8 0, .int .u8 0, .int .u8 0, .int .u8 0, .int .u8 0, .int .u8 0, .int .u8 0, .int .u8 0, .int .u8 0, .int .u8 0, .int .u8 0, .int .u8 0, .int .u8 0, .int .u8 0, .int .u8 0, .int .u8 0, .int .u8 0, .int .u8 0, .int .u8 0, .int .u8 0] := ZeroOf.of (by kernel_rfl)
instance : ZeroOf Tryd.prog 70 [.int .u64 0, .int .u64 0, .int .u64 0, .int .u64 0, .int .u64 0, .int .u64 0, .int .u64 0, .int .u64 0, .int .u64 0, .int .u64 0, .int .u64 0, .int .u64 0, .int .u64 0, .int .u64 0, .int .u64 0, .int .u64 0, .int .u64 0, .int .u64 0, .int .u64 0, .int .u64 0] := ZeroOf.of (by kernel_rfl)
instance : ZeroOf Tryd.prog 71 [.int .u8 0, .int .u8 0, .int .u8 0, .int .u8 0, .int .u8 0, .int .u8 0, .int .u8 0, .int .u8 0, .int .u8 0, .int .u8 0, .int .u8 0, .int .u8 0, .int .u8 0, .int .u8 0, .int .u8 0, .int .u8 0, .int .u8 0, .int .u8 0, .int .u8 0, .int .u8 0, .int .u8 0, .int .u8 0, .int .u8 0, .int .u8 0, .int .u8 0, .int .u8 0, .int .u8 0, .int .u8 0, .int .u8 0, .int .u8 0, .int .u8 0, .int .u8 0, .int .u8 0, .int .u8 0, .int .u8 0, .int .u8 0, .int .u8 0, .int .u8 0, .int .u8 0, .int .u8 0, .int .u8 0, .int .u8 0, .int .u8 0, .int .u8 0, .int .u8 0, .int .u8 0, .int .u8 0, .int .u8 0, .int .u8 0, .int .u8 0, .int .u8 0, .int .u8 0, .int .u8 0, .int .u8 0, .int .u8 0, .int .u8 0, .int .u8 0, .int .u8 0, .int .u8 0, .int .u8 0, .int .u8 0, .int .u8 0, .int .u8 0, .int .u8 0, .int .u8 0] := ZeroOf.of (by kernel_rfl)
instance : ZeroOf Tryd.prog 74 [.int .u8 0, .int .u8 0, .int .u8 0, .int .u8 0, .int .u8 0, .int .u8 0, .int .u8 0, .int .u8 0, .int .u8 0, .int .u8 0, .int .u8 0, .int .u8 0, .int .u8 0, .int .u8 0, .int .u8 0, .int .u8 0, .int .u8 0, .int .u8 0, .int .u8 0, .int .u8 0, .int .u8 0, .int .u8 0, .int .u8 0, .int .u8 0, .int .u8 0, .int .u8 0, .int .u8 0, .int .u8 0, .int .u8 0, .int .u8 0, .int .u8 0, .int .u8 0] := ZeroOf.of (by kernel_rfl)
instance : ZeroOf Tryd.prog 75 [.int .u8 0, .int .u8 0, .int .u8 0, .int .u8 0, .int .u8 0, .int .u8 0, .int .u8 0, .int .u8 0, .int .u8 0, .int .u8 0, .int .u8 0, .int .u8 0, .int .u8 0, .int .u8 0, .int .u8 0, .int .u8 0, .int .u8 0, .int .u8 0, .int .u8 0, .int .u8 0, .int .u8 0, .int .u8 0, .int .u8 0, .int .u8 0, .int .u8 0, .int .u8 0, .int .u8 0, .int .u8 0, .int .u8 0, .int .u8 0, .int .u8 0, .int .u8 0, .int .u8 0, .int .u8 0, .int .u8 0, .int .u8 0, .int .u8 0, .int .u8 0, .int .u8 0, .int .u8 0, .int .u8 0, .int .u8 0, .int .u8 0, .int .u8 0, .int .u8 0, .int .u8 0, .int .u8 0, .int .u8 0, .int .u8 0, .int .u8 0, .int .u8 0, .int .u8 0, .int .u8 0, .int .u8 0, .int .u8 0, .int .u8 0, .int .u8 0, .int .u8 0, .int .u8 0, .int .u8 0, .int .u8 0, .int .u8 0, .int .u8 0, .int .u8 0] := ZeroOf.of (by kernel_rfl)
instance : StructOf Tryd.prog 27 [(0, 1), (1, 1)] [.int .u32 0, .int .u32 0] := ⟨fun _ => by kernel_rfl⟩
instance : StructOf Tryd.prog 55 [(0, 1), (1, 1)] [.nilFunc, .nilFunc] := ⟨fun _ => by kernel_rfl⟩
instance : ArrayBuild Tryd.prog 56 2 [.nilFunc, .nilFunc, .nilFunc, .nilFunc, .nilFunc, .nilFunc, .nilFunc, .nilFunc, .nilFunc, .nilFunc] := ⟨fun _ => by kernel_rfl⟩
instance : ArrayBuild Tryd.prog 70 1 [.int .u64 0, .int .u64 0, .int .u64 0, .int .u64 0, .int .u64 0, .int .u64 0, .int .u64 0, .int .u64 0, .int .u64 0, .int .u64 0, .int .u64 0, .int .u64 0, .int .u64 0, .int .u64 0, .int .u64 0, .int .u64 0, .int .u64 0, .int .u64 0, .int .u64 0, .int .u64 0] := ⟨fun _ => by kernel_rfl⟩
instance : ArrayBuild Tryd.prog 74 1 [.int .u8 0, .int .u8 0, .int .u8 0, .int .u8 0, .int .u8 0, .int .u8 0, .int .u8 0, .int .u8 0, .int .u8 0, .int .u8 0, .int .u8 0, .int .u8 0, .int .u8 0, .int .u8 0, .int .u8 0, .int .u8 0, .int .u8 0, .int .u8 0, .int .u8 0, .int .u8 0, .int .u8 0, .int .u8 0, .int .u8 0, .int .u8 0, .int .u8 0, .int .u8 0, .int .u8 0, .int .u8 0, .int .u8 0, .int .u8 0, .int .u8 0, .int .u8 0] := ⟨fun _ => by kernel_rfl⟩
instance : ArrayBuild Tryd.prog 75 1 [.int .u8 0, .int .u8 0, .int .u8 0, .int .u8 0, .int .u8 0, .int .u8 0, .int .u8 0, .int .u8 0, .int .u8 0, .int .u8 0, .int .u8 0, .int .u8 0, .int .u8 0, .int .u8 0, .int .u8 0, .int .u8 0, .int .u8 0, .int .u8 0, .int .u8 0, .int .u8 0, .int .u8 0, .int .u8 0, .int .u8 0, .int .u8 0, .int .u8 0, .int .u8 0, .int .u8 0, .int .u8 0, .int .u8 0, .int .u8 0, .int .u8 0, .int .u8 0, .int .u8 0, .int .u8 0, .int .u8 0, .int .u8 0, .int .u8 0, .int .u8 0, .int .u8 0, .int .u8 0, .int .u8 0, .int .u8 0, .int .u8 0, .int .u8 0, .int .u8 0, .int .u8 0, .int .u8 0, .int .u8 0, .int .u8 0, .int .u8 0, .int .u8 0, .int .u8 0, .int .u8 0, .int .u8 0, .int .u8 0, .int .u8 0, .int .u8 0, .int .u8 0, .int .u8 0, .int .u8 0, .int .u8 0, .int .u8 0, .int .u8 0, .int .u8 0] := ⟨fun _ => by kernel_rfl⟩
instance : FlatEq Tryd.prog 27 [.int .u32, .int .u32] := ⟨by kernel_rfl, by kernel_rfl, by kernel_rfl, by kernel_rfl⟩
instance : UnderStr Tryd.prog 9 := ⟨by kernel_rfl⟩
instance : UnderStr Tryd.prog 10 := ⟨by kernel_rfl⟩
instance : UnderStr Tryd.prog 11 := ⟨by kernel_rfl⟩
instance : IntTy Tryd.prog 3 .i64 := ⟨by kernel_rfl⟩
instance : IntTy Tryd.prog 5 .u8 := ⟨by kernel_rfl⟩
instance : IntTy Tryd.prog 22 .u64 := ⟨by kernel_rfl⟩
instance : IntTy Tryd.prog 25 .u32 := ⟨by kernel_rfl⟩
instance : IntTy Tryd.prog 58 .u64 := ⟨by kernel_rfl⟩
instance : Callable Tryd.prog 2 := Callable.of (by kernel_rfl)
instance : Callable Tryd.prog 3 := Callable.of (by kernel_rfl)
instance : Callable Tryd.prog 4 := Callable.of (by kernel_rfl)
instance : Callable Tryd.prog 5 := Callable.of (by kernel_rfl)
instance : Callable Tryd.prog 6 := Callable.of (by kernel_rfl)
instance : Callable Tryd.prog 7 := Callable.of (by kernel_rfl)
instance : Callable Tryd.prog 8 := Callable.of (by kernel_rfl)
instance : Callable Tryd.prog 9 := Callable.of (by kernel_rfl)
instance : Callable Tryd.prog 10 := Callable.of (by kernel_rfl)
instance : Callable Tryd.prog 11 := Callable.of (by kernel_rfl)
instance : Callable Tryd.prog 12 := Callable.of (by kernel_rfl)
instance : Callable Tryd.prog 13 := Callable.of (by kernel_rfl)
instance : Callable Tryd.prog 14 := Callable.of (by kernel_rfl)
instance : Callable Tryd.prog 15 := Callable.of (by kernel_rfl)
instance : Callable Tryd.prog 16 := Callable.of (by kernel_rfl)
instance : Callable Tryd.prog 17 := Callable.of (by kernel_rfl)
instance : Callable Tryd.prog 18 := Callable.of (by kernel_rfl)
instance : Callable Tryd.prog 19 := Callable.of (by kernel_rfl)
instance : Callable Tryd.prog 20 := Callable.of (by kernel_rfl)
instance : Callable Tryd.prog 21 := Callable.of (by kernel_rfl)
instance : Callable Tryd.prog 22 := Callable.of (by kernel_rfl)
instance : Callable Tryd.prog 23 := Callable.of (by kernel_rfl)
instance : Callable Tryd.prog 24 := Callable.of (by kernel_rfl)
instance : Callable Tryd.prog 25 := Callable.of (by kernel_rfl)
instance : Callable Tryd.prog 26 := Callable.of (by kernel_rfl)
instance : Callable Tryd.prog 27 := Callable.of (by kernel_rfl)
instance : Callable Tryd.prog 28 := Callable.of (by kernel_rfl)
instance : Callable Tryd.prog 29 := Callable.of (by kernel_rfl)
instance : Callable Tryd.prog 30 := Callable.of (by kernel_rfl)
instance : Callable Tryd.prog 31 := Callable.of (by kernel_rfl)
instance : Callable Tryd.prog 32 := Callable.of (by kernel_rfl)
instance : Callable Tryd.prog 33 := Callable.of (by kernel_rfl)
instance : Callable Tryd.prog 34 := Callable.of (by kernel_rfl)
instance : Callable Tryd.prog 35 := Callable.of (by kernel_rfl)
instance : Callable Tryd.prog 36 := Callable.of (by kernel_rfl)
instance : Callable Tryd.prog 37 := Callable.of (by kernel_rfl)
instance : Callable Tryd.prog 38 := Callable.of (by kernel_rfl)
instance : Callable Tryd.prog 39 := Callable.of (by kernel_rfl)
instance : Callable Tryd.prog 40 := Callable.of (by kernel_rfl)
instance : Callable Tryd.prog 41 := Callable.of (by kernel_rfl)
instance : Callable Tryd.prog 42 := Callable.of (by kernel_rfl)
instance : Callable Tryd.prog 43 := Callable.of (by kernel_rfl)
instance : Callable Tryd.prog 44 := Callable.of (by kernel_rfl)
instance : Callable Tryd.prog 45 := Callable.of (by kernel_rfl)
instance : Callable Tryd.prog 46 := Callable.of (by kernel_rfl)
instance : Callable Tryd.prog 47 := Callable.of (by kernel_rfl)
instance : Callable Tryd.prog 48 := Callable.of (by kernel_rfl)
instance : Callable Tryd.prog 49 := Callable.of (by kernel_rfl)
instance : Callable Tryd.prog 50 := Callable.of (by kernel_rfl)
instance : Callable Tryd.prog 51 := Callable.of (by kernel_rfl)
instance : Callable Tryd.prog 52 := Callable.of (by kernel_rfl)
instance : Callable Tryd.prog 53 := Callable.of (by kernel_rfl)
instance : Callable Tryd.prog 54 := Callable.of (by kernel_rfl)
instance : Callable Tryd.prog 55 := Callable.of (by kernel_rfl)
instance : Callable Tryd.prog 77 := Callable.of (by kernel_rfl)

end Go.Proofs.YtdmfojjpanndoaaDoor
