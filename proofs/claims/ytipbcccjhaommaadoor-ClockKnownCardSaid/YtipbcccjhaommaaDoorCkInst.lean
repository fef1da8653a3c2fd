/- Facts on the types and functions of the translation, by program. No condition. -/
import Derived.Test.YtipbcccjhaommaaDoorProg
import Derived.Test.YtipbcccjhaommaaDoorSL2
import Derived.Test.YtipbcccjhaommaaDoorSL3
namespace Go.Proofs.YtipbcccjhaommaaDoor
open Go Go.SL

instance : Mixed Tryd.prog := ⟨by kernel_rfl⟩
instance : UnderPtr Tryd.prog 42 := ⟨by kernel_rfl⟩
instance : UnderPtr Tryd.prog 81 := ⟨by kernel_rfl⟩
instance : UnderPtr Tryd.prog 101 := ⟨by kernel_rfl⟩
instance : PtrTo Tryd.prog 42 := PtrTo.of (te := 28) (by kernel_rfl) (by kernel_rfl)
instance : PtrTo Tryd.prog 81 := PtrTo.of (te := 84) (by kernel_rfl) (by kernel_rfl)
instance : PtrTo Tryd.prog 101 := PtrTo.of (te := 5) (by kernel_rfl) (by kernel_rfl)
instance : UnderBool Tryd.prog 4 := ⟨by kernel_rfl⟩
instance : FieldOff Tryd.prog 26 0 0 := FieldOff.of (by kernel_rfl)
instance : FieldOff Tryd.prog 28 0 0 := FieldOff.of (by kernel_rfl)
instance : FieldOff Tryd.prog 28 1 1 := FieldOff.of (by kernel_rfl)
instance : FieldOff Tryd.prog 41 0 0 := FieldOff.of (by kernel_rfl)
instance : FieldOff Tryd.prog 41 1 1 := FieldOff.of (by kernel_rfl)
instance : FieldOff Tryd.prog 48 0 0 := FieldOff.of (by kernel_rfl)
instance : FieldOff Tryd.prog 48 1 1 := FieldOff.of (by kernel_rfl)
instance : FieldOff Tryd.prog 48 2 2 := FieldOff.of (by kernel_rfl)
instance : FieldOff Tryd.prog 84 0 0 := FieldOff.of (by kernel_rfl)
instance : FieldOff Tryd.prog 84 1 1 := FieldOff.of (by kernel_rfl)
instance : SliceOf Tryd.prog 22 2 1 8 [.int .i64 0] := SliceOf.of (by kernel_rfl) (by kernel_rfl) rfl
instance : SliceOf Tryd.prog 23 3 1 8 [.int .i64 0] := SliceOf.of (by kernel_rfl) (by kernel_rfl) rfl
instance : SliceOf Tryd.prog 35 4 1 1 [.bool false] := SliceOf.of (by kernel_rfl) (by kernel_rfl) rfl
instance : SliceOf Tryd.prog 38 48 3 40 [.int .i64 0, .int .i64 0, .slice none 0 0] := SliceOf.of (by kernel_rfl) (by kernel_rfl) rfl
instance : SliceOf Tryd.prog 46 51 1 8 [.float .f64 0] := SliceOf.of (by kernel_rfl) (by kernel_rfl) rfl
instance : SliceOf Tryd.prog 82 5 1 1 [.int .u8 0] := SliceOf.of (by kernel_rfl) (by kernel_rfl) rfl
instance : ArrayOf Tryd.prog 91 24 5 1 := ArrayOf.of (by kernel_rfl) (by kernel_rfl)
instance : ArrayOf Tryd.prog 104 20 60 1 := ArrayOf.of (by kernel_rfl) (by kernel_rfl)
instance : ArrayOf Tryd.prog 105 65 5 1 := ArrayOf.of (by kernel_rfl) (by kernel_rfl)
instance : ArrayOf Tryd.prog 112 32 5 1 := ArrayOf.of (by kernel_rfl) (by kernel_rfl)
instance : ArrayOf Tryd.prog 113 64 5 1 := ArrayOf.of (by kernel_rfl) (by kernel_rfl)
instance : Plain Tryd.prog 2 := Plain.of (by kernel_rfl) (by kernel_rfl)
instance : Plain Tryd.prog 3 := Plain.of (by kernel_rfl) (by kernel_rfl)
instance : Plain Tryd.prog 4 := Plain.of (by kernel_rfl) (by kernel_rfl)
instance : Plain Tryd.prog 5 := Plain.of (by kernel_rfl) (by kernel_rfl)
instance : Plain Tryd.prog 22 := Plain.of (by kernel_rfl) (by kernel_rfl)
instance : Plain Tryd.prog 46 := Plain.of (by kernel_rfl) (by kernel_rfl)
instance : Plain Tryd.prog 51 := Plain.of (by kernel_rfl) (by kernel_rfl)
instance : Plain Tryd.prog 60 := Plain.of (by kernel_rfl) (by kernel_rfl)
instance : Plain Tryd.prog 81 := Plain.of (by kernel_rfl) (by kernel_rfl)
instance : Plain Tryd.prog 82 := Plain.of (by kernel_rfl) (by kernel_rfl)
instance : Aggr Tryd.prog 26 1 := Aggr.of (by kernel_rfl) (by kernel_rfl)
instance : Aggr Tryd.prog 41 2 := Aggr.of (by kernel_rfl) (by kernel_rfl)
instance : Aggr Tryd.prog 48 3 := Aggr.of (by kernel_rfl) (by kernel_rfl)
instance : Aggr Tryd.prog 104 20 := Aggr.of (by kernel_rfl) (by kernel_rfl)
instance : Aggr Tryd.prog 112 32 := Aggr.of (by kernel_rfl) (by kernel_rfl)
instance : Aggr Tryd.prog 113 64 := Aggr.of (by kernel_rfl) (by kernel_rfl)
instance : ZeroOf Tryd.prog 28 [.int .i64 0, .slice none 0 0] := ZeroOf.of (by kernel_rfl)
instance : ZeroOf Tryd.prog 41 [.int .i64 0, .slice none 0 0] := ZeroOf.of (by kernel_rfl)
instance : ZeroOf Tryd.prog 48 [.int .i64 0, .int .i64 0, .slice none 0 0] := ZeroOf.of (by kernel_rfl)
instance : ZeroOf Tryd.prog 84 [.pointer none, .slice none 0 0] := ZeroOf.of (by kernel_rfl)
instance : ZeroOf Tryd.prog 91 [.int .u8 0, .int .u8 0, .int .u8 0, .int .u8 0, .int .u8 0, .int .u8 0, .int .u8 0, .int .u8 0, .int .u8 0, .int .u8 0, .int .u8 0, .int .u8 0, .int .u8 0, .int .u8 0, .int .u8 0, .int .u8 0, .int .u8 0, .int .u8 0, .int .u8 0, .int .u8 0, .int .u8 0, .int .u8 0, .int .u8 0, .int .u8 0] := ZeroOf.of (by kernel_rfl)
instance : ZeroOf Tryd.prog 104 [.int .u64 0, .int .u64 0, .int .u64 0, .int .u64 0, .int .u64 0, .int .u64 0, .int .u64 0, .int .u64 0, .int .u64 0, .int .u64 0, .int .u64 0, .int .u64 0, .int .u64 0, .int .u64 0, .int .u64 0, .int .u64 0, .int .u64 0, .int .u64 0, .int .u64 0, .int .u64 0] := ZeroOf.of (by kernel_rfl)
instance : ZeroOf Tryd.prog 105 [.int .u8 0, .int .u8 0, .int .u8 0, .int .u8 0, .int .u8 0, .int .u8 0, .int .u8 0, .int .u8 0, .int .u8 0, .int .u8 0, .int .u8 0, .int .u8 0, .int .u8 0, .int .u8 0, .int .u8 0, .int .u8 0, .int .u8 0, .int .u8 0, .int .u8 0, .int .u8 0, .int .u8 0, .int .u8 0, .int .u8 0, .int .u8 0, .int .u8 0, .int .u8 0, .int .u8 0, .int .u8 0, .int .u8 0, .int .u8 0, .int .u8 0, .int .u8 0, .int .u8 0, .int .u8 0, .int .u8 0, .int .u8 0, .int .u8 0, .int .u8 0, .int .u8 0, .int .u8 0, .int .u8 0, .int .u8 0, .int .u8 0, .int .u8 0, .int .u8 0, .int .u8 0, .int .u8 0, .int .u8 0, .int .u8 0, .int .u8 0, .int .u8 0, .int .u8 0, .int .u8 0, .int .u8 0, .int .u8 0, .int .u8 0, .int .u8 0, .int .u8 0, .int .u8 0, .int .u8 0, .int .u8 0, .int .u8 0, .int .u8 0, .int .u8 0, .int .u8 0] := ZeroOf.of (by kernel_rfl)
instance : ZeroOf Tryd.prog 112 [.int .u8 0, .int .u8 0, .int .u8 0, .int .u8 0, .int .u8 0, .int .u8 0, .int .u8 0, .int .u8 0, .int .u8 0, .int .u8 0, .int .u8 0, .int .u8 0, .int .u8 0, .int .u8 0, .int .u8 0, .int .u8 0, .int .u8 0, .int .u8 0, .int .u8 0, .int .u8 0, .int .u8 0, .int .u8 0, .int .u8 0, .int .u8 0, .int .u8 0, .int .u8 0, .int .u8 0, .int .u8 0, .int .u8 0, .int .u8 0, .int .u8 0, .int .u8 0] := ZeroOf.of (by kernel_rfl)
instance : ZeroOf Tryd.prog 113 [.int .u8 0, .int .u8 0, .int .u8 0, .int .u8 0, .int .u8 0, .int .u8 0, .int .u8 0, .int .u8 0, .int .u8 0, .int .u8 0, .int .u8 0, .int .u8 0, .int .u8 0, .int .u8 0, .int .u8 0, .int .u8 0, .int .u8 0, .int .u8 0, .int .u8 0, .int .u8 0, .int .u8 0, .int .u8 0, .int .u8 0, .int .u8 0, .int .u8 0, .int .u8 0, .int .u8 0, .int .u8 0, .int .u8 0, .int .u8 0, .int .u8 0, .int .u8 0, .int .u8 0, .int .u8 0, .int .u8 0, .int .u8 0, .int .u8 0, .int .u8 0, .int .u8 0, .int .u8 0, .int .u8 0, .int .u8 0, .int .u8 0, .int .u8 0, .int .u8 0, .int .u8 0, .int .u8 0, .int .u8 0, .int .u8 0, .int .u8 0, .int .u8 0, .int .u8 0, .int .u8 0, .int .u8 0, .int .u8 0, .int .u8 0, .int .u8 0, .int .u8 0, .int .u8 0, .int .u8 0, .int .u8 0, .int .u8 0, .int .u8 0, .int .u8 0] := ZeroOf.of (by kernel_rfl)
instance : StructOf Tryd.prog 28 [(0, 1), (1, 1)] [.int .i64 0, .slice none 0 0] := ⟨fun _ => by kernel_rfl⟩
instance : StructOf Tryd.prog 48 [(0, 1), (1, 1), (2, 1)] [.int .i64 0, .int .i64 0, .slice none 0 0] := ⟨fun _ => by kernel_rfl⟩
instance : ArrayBuild Tryd.prog 104 1 [.int .u64 0, .int .u64 0, .int .u64 0, .int .u64 0, .int .u64 0, .int .u64 0, .int .u64 0, .int .u64 0, .int .u64 0, .int .u64 0, .int .u64 0, .int .u64 0, .int .u64 0, .int .u64 0, .int .u64 0, .int .u64 0, .int .u64 0, .int .u64 0, .int .u64 0, .int .u64 0] := ⟨fun _ => by kernel_rfl⟩
instance : ArrayBuild Tryd.prog 112 1 [.int .u8 0, .int .u8 0, .int .u8 0, .int .u8 0, .int .u8 0, .int .u8 0, .int .u8 0, .int .u8 0, .int .u8 0, .int .u8 0, .int .u8 0, .int .u8 0, .int .u8 0, .int .u8 0, .int .u8 0, .int .u8 0, .int .u8 0, .int .u8 0, .int .u8 0, .int .u8 0, .int .u8 0, .int .u8 0, .int .u8 0, .int .u8 0, .int .u8 0, .int .u8 0, .int .u8 0, .int .u8 0, .int .u8 0, .int .u8 0, .int .u8 0, .int .u8 0] := ⟨fun _ => by kernel_rfl⟩
instance : ArrayBuild Tryd.prog 113 1 [.int .u8 0, .int .u8 0, .int .u8 0, .int .u8 0, .int .u8 0, .int .u8 0, .int .u8 0, .int .u8 0, .int .u8 0, .int .u8 0, .int .u8 0, .int .u8 0, .int .u8 0, .int .u8 0, .int .u8 0, .int .u8 0, .int .u8 0, .int .u8 0, .int .u8 0, .int .u8 0, .int .u8 0, .int .u8 0, .int .u8 0, .int .u8 0, .int .u8 0, .int .u8 0, .int .u8 0, .int .u8 0, .int .u8 0, .int .u8 0, .int .u8 0, .int .u8 0, .int .u8 0, .int .u8 0, .int .u8 0, .int .u8 0, .int .u8 0, .int .u8 0, .int .u8 0, .int .u8 0, .int .u8 0, .int .u8 0, .int .u8 0, .int .u8 0, .int .u8 0, .int .u8 0, .int .u8 0, .int .u8 0, .int .u8 0, .int .u8 0, .int .u8 0, .int .u8 0, .int .u8 0, .int .u8 0, .int .u8 0, .int .u8 0, .int .u8 0, .int .u8 0, .int .u8 0, .int .u8 0, .int .u8 0, .int .u8 0, .int .u8 0, .int .u8 0] := ⟨fun _ => by kernel_rfl⟩
instance : UnderStr Tryd.prog 9 := ⟨by kernel_rfl⟩
instance : UnderStr Tryd.prog 10 := ⟨by kernel_rfl⟩
instance : UnderStr Tryd.prog 11 := ⟨by kernel_rfl⟩
instance : IntTy Tryd.prog 2 .i64 := ⟨by kernel_rfl⟩
instance : IntTy Tryd.prog 3 .i64 := ⟨by kernel_rfl⟩
instance : IntTy Tryd.prog 5 .u8 := ⟨by kernel_rfl⟩
instance : IntTy Tryd.prog 30 .i64 := ⟨by kernel_rfl⟩
instance : IntTy Tryd.prog 60 .u64 := ⟨by kernel_rfl⟩
instance : IntTy Tryd.prog 77 .u64 := ⟨by kernel_rfl⟩
instance : IntTy Tryd.prog 96 .u32 := ⟨by kernel_rfl⟩
instance : Callable Tryd.prog 2 := Callable.of (by kernel_rfl)
instance : Callable Tryd.prog 3 := Callable.of (by kernel_rfl)
instance : Callable Tryd.prog 4 := Callable.of (by kernel_rfl)
instance : Callable Tryd.prog 5 := Callable.of (by kernel_rfl)
instance : Callable Tryd.prog 6 := Callable.of (by kernel_rfl)
instance : Callable Tryd.prog 7 := Callable.of (by kernel_rfl)
instance : Callable Tryd.prog 8 := Callable.of (by kernel_rfl)
instance : Callable Tryd.prog 9 := Callable.of (by kernel_rfl)
instance : Callable Tryd.prog 10 := Callable.of (by kernel_rfl)
instance : Callable Tryd.prog 11 := Callable.of (by kernel_rfl)
instance : Callable Tryd.prog 12 := Callable.of (by kernel_rfl)
instance : Callable Tryd.prog 13 := Callable.of (by kernel_rfl)
instance : Callable Tryd.prog 14 := Callable.of (by kernel_rfl)
instance : Callable Tryd.prog 15 := Callable.of (by kernel_rfl)
instance : Callable Tryd.prog 16 := Callable.of (by kernel_rfl)
instance : Callable Tryd.prog 17 := Callable.of (by kernel_rfl)
instance : Callable Tryd.prog 18 := Callable.of (by kernel_rfl)
instance : Callable Tryd.prog 19 := Callable.of (by kernel_rfl)
instance : Callable Tryd.prog 20 := Callable.of (by kernel_rfl)
instance : Callable Tryd.prog 21 := Callable.of (by kernel_rfl)
instance : Callable Tryd.prog 22 := Callable.of (by kernel_rfl)
instance : Callable Tryd.prog 23 := Callable.of (by kernel_rfl)
instance : Callable Tryd.prog 24 := Callable.of (by kernel_rfl)
instance : Callable Tryd.prog 25 := Callable.of (by kernel_rfl)
instance : Callable Tryd.prog 26 := Callable.of (by kernel_rfl)
instance : Callable Tryd.prog 27 := Callable.of (by kernel_rfl)
instance : Callable Tryd.prog 28 := Callable.of (by kernel_rfl)
instance : Callable Tryd.prog 29 := Callable.of (by kernel_rfl)
instance : Callable Tryd.prog 30 := Callable.of (by kernel_rfl)
instance : Callable Tryd.prog 31 := Callable.of (by kernel_rfl)
instance : Callable Tryd.prog 32 := Callable.of (by kernel_rfl)
instance : Callable Tryd.prog 33 := Callable.of (by kernel_rfl)
instance : Callable Tryd.prog 34 := Callable.of (by kernel_rfl)
instance : Callable Tryd.prog 35 := Callable.of (by kernel_rfl)
instance : Callable Tryd.prog 36 := Callable.of (by kernel_rfl)
instance : Callable Tryd.prog 37 := Callable.of (by kernel_rfl)
instance : Callable Tryd.prog 38 := Callable.of (by kernel_rfl)
instance : Callable Tryd.prog 39 := Callable.of (by kernel_rfl)
instance : Callable Tryd.prog 40 := Callable.of (by kernel_rfl)
instance : Callable Tryd.prog 41 := Callable.of (by kernel_rfl)
instance : Callable Tryd.prog 42 := Callable.of (by kernel_rfl)
instance : Callable Tryd.prog 43 := Callable.of (by kernel_rfl)
instance : Callable Tryd.prog 44 := Callable.of (by kernel_rfl)
instance : Callable Tryd.prog 45 := Callable.of (by kernel_rfl)
instance : Callable Tryd.prog 46 := Callable.of (by kernel_rfl)
instance : Callable Tryd.prog 47 := Callable.of (by kernel_rfl)
instance : Callable Tryd.prog 48 := Callable.of (by kernel_rfl)
instance : Callable Tryd.prog 49 := Callable.of (by kernel_rfl)
instance : Callable Tryd.prog 50 := Callable.of (by kernel_rfl)
instance : Callable Tryd.prog 51 := Callable.of (by kernel_rfl)
instance : Callable Tryd.prog 52 := Callable.of (by kernel_rfl)
instance : Callable Tryd.prog 53 := Callable.of (by kernel_rfl)
instance : Callable Tryd.prog 54 := Callable.of (by kernel_rfl)
instance : Callable Tryd.prog 55 := Callable.of (by kernel_rfl)
instance : Callable Tryd.prog 56 := Callable.of (by kernel_rfl)
instance : Callable Tryd.prog 57 := Callable.of (by kernel_rfl)
instance : Callable Tryd.prog 58 := Callable.of (by kernel_rfl)
instance : Callable Tryd.prog 59 := Callable.of (by kernel_rfl)
instance : Callable Tryd.prog 60 := Callable.of (by kernel_rfl)
instance : Callable Tryd.prog 61 := Callable.of (by kernel_rfl)
instance : Callable Tryd.prog 62 := Callable.of (by kernel_rfl)
instance : Callable Tryd.prog 63 := Callable.of (by kernel_rfl)
instance : Callable Tryd.prog 66 := Callable.of (by kernel_rfl)
instance : Callable Tryd.prog 67 := Callable.of (by kernel_rfl)
instance : Callable Tryd.prog 91 := Callable.of (by kernel_rfl)

end Go.Proofs.YtipbcccjhaommaaDoor
