/- Facts on the types and functions of the translation, by program. No condition. -/
import Derived.Test.YtkgddnelghkdnaaDoorProg
import Derived.Test.YtkgddnelghkdnaaDoorSL2
import Derived.Test.YtkgddnelghkdnaaDoorSL3
namespace Go.Proofs.YtkgddnelghkdnaaDoor
open Go Go.SL

instance : Mixed Tryd.prog := ⟨by kernel_rfl⟩
instance : UnderPtr Tryd.prog 63 := ⟨by kernel_rfl⟩
instance : UnderPtr Tryd.prog 87 := ⟨by kernel_rfl⟩
instance : PtrTo Tryd.prog 63 := PtrTo.of (te := 66) (by kernel_rfl) (by kernel_rfl)
instance : PtrTo Tryd.prog 87 := PtrTo.of (te := 5) (by kernel_rfl) (by kernel_rfl)
instance : UnderBool Tryd.prog 4 := ⟨by kernel_rfl⟩
instance : FieldOff Tryd.prog 66 0 0 := FieldOff.of (by kernel_rfl)
instance : FieldOff Tryd.prog 66 1 1 := FieldOff.of (by kernel_rfl)
instance : SliceOf Tryd.prog 32 2 1 8 [.int .i64 0] := SliceOf.of (by kernel_rfl) (by kernel_rfl) rfl
instance : SliceOf Tryd.prog 42 22 1 8 [.float .f64 0] := SliceOf.of (by kernel_rfl) (by kernel_rfl) rfl
instance : SliceOf Tryd.prog 43 9 1 16 [.string ByteArray.empty] := SliceOf.of (by kernel_rfl) (by kernel_rfl) rfl
instance : SliceOf Tryd.prog 64 5 1 1 [.int .u8 0] := SliceOf.of (by kernel_rfl) (by kernel_rfl) rfl
instance : ArrayOf Tryd.prog 47 2 2 1 := ArrayOf.of (by kernel_rfl) (by kernel_rfl)
instance : ArrayOf Tryd.prog 77 24 5 1 := ArrayOf.of (by kernel_rfl) (by kernel_rfl)
instance : ArrayOf Tryd.prog 98 20 35 1 := ArrayOf.of (by kernel_rfl) (by kernel_rfl)
instance : ArrayOf Tryd.prog 99 65 5 1 := ArrayOf.of (by kernel_rfl) (by kernel_rfl)
instance : ArrayOf Tryd.prog 117 32 5 1 := ArrayOf.of (by kernel_rfl) (by kernel_rfl)
instance : ArrayOf Tryd.prog 118 64 5 1 := ArrayOf.of (by kernel_rfl) (by kernel_rfl)
instance : Plain Tryd.prog 2 := Plain.of (by kernel_rfl) (by kernel_rfl)
instance : Plain Tryd.prog 3 := Plain.of (by kernel_rfl) (by kernel_rfl)
instance : Plain Tryd.prog 5 := Plain.of (by kernel_rfl) (by kernel_rfl)
instance : Plain Tryd.prog 9 := Plain.of (by kernel_rfl) (by kernel_rfl)
instance : Plain Tryd.prog 22 := Plain.of (by kernel_rfl) (by kernel_rfl)
instance : Plain Tryd.prog 35 := Plain.of (by kernel_rfl) (by kernel_rfl)
instance : Plain Tryd.prog 54 := Plain.of (by kernel_rfl) (by kernel_rfl)
instance : Plain Tryd.prog 63 := Plain.of (by kernel_rfl) (by kernel_rfl)
instance : Plain Tryd.prog 64 := Plain.of (by kernel_rfl) (by kernel_rfl)
instance : Aggr Tryd.prog 98 20 := Aggr.of (by kernel_rfl) (by kernel_rfl)
instance : Aggr Tryd.prog 117 32 := Aggr.of (by kernel_rfl) (by kernel_rfl)
instance : Aggr Tryd.prog 118 64 := Aggr.of (by kernel_rfl) (by kernel_rfl)
instance : ZeroOf Tryd.prog 47 [.int .i64 0, .int .i64 0] := ZeroOf.of (by kernel_rfl)
instance : ZeroOf Tryd.prog 66 [.pointer none, .slice none 0 0] := ZeroOf.of (by kernel_rfl)
instance : ZeroOf Tryd.prog 77 [.int .u8 0, .int .u8 0, .int .u8 0, .int .u8 0, .int .u8 0, .int .u8 0, .int .u8 0, .int .u8 0, .int .u8 0, .int .u8 0, .int .u8 0, .int .u8 0, .int .u8 0, .int .u8 0, .int .u8 0, .int .u8 0, .int .u8 0, .int .u8 0, .int .u8 0, .int .u8 0, .int .u8 0, .int .u8 0, .int .u8 0, .int .u8 0] := ZeroOf.of (by kernel_rfl)
instance : ZeroOf Tryd.prog 98 [.int .u64 0, .int .u64 0, .int .u64 0, .int .u64 0, .int .u64 0, .int .u64 0, .int .u64 0, .int .u64 0, .int .u64 0, .int .u64 0, .int .u64 0, .int .u64 0, .int .u64 0, .int .u64 0, .int .u64 0, .int .u64 0, .int .u64 0, .int .u64 0, .int .u64 0, .int .u64 0] := ZeroOf.of (by kernel_rfl)
instance : ZeroOf Tryd.prog 99 [.int .u8 0, .int .u8 0, .int .u8 0, .int .u8 0, .int .u8 0, .int .u8 0, .int .u8 0, .int .u8 0, .int .u8 0, .int .u8 0, .int .u8 0, .int .u8 0, .int .u8 0, .int .u8 0, .int .u8 0, .int .u8 0, .int .u8 0, .int .u8 0, .int .u8 0, .int .u8 0, .int .u8 0, .int .u8 0, .int .u8 0, .int .u8 0, .int .u8 0, .int .u8 0, .int .u8 0, .int .u8 0, .int .u8 0, .int .u8 0, .int .u8 0, .int .u8 0, .int .u8 0, .int .u8 0, .int .u8 0, .int .u8 0, .int .u8 0, .int .u8 0, .int .u8 0, .int .u8 0, .int .u8 0, .int .u8 0, .int .u8 0, .int .u8 0, .int .u8 0, .int .u8 0, .int .u8 0, .int .u8 0, .int .u8 0, .int .u8 0, .int .u8 0, .int .u8 0, .int .u8 0, .int .u8 0, .int .u8 0, .int .u8 0, .int .u8 0, .int .u8 0, .int .u8 0, .int .u8 0, .int .u8 0, .int .u8 0, .int .u8 0, .int .u8 0, .int .u8 0] := ZeroOf.of (by kernel_rfl)
instance : ZeroOf Tryd.prog 110 [.string ByteArray.empty, .string ByteArray.empty, .nilIface] := ZeroOf.of (by kernel_rfl)
instance : ZeroOf Tryd.prog 116 [.string ByteArray.empty] := ZeroOf.of (by kernel_rfl)
instance : ZeroOf Tryd.prog 117 [.int .u8 0, .int .u8 0, .int .u8 0, .int .u8 0, .int .u8 0, .int .u8 0, .int .u8 0, .int .u8 0, .int .u8 0, .int .u8 0, .int .u8 0, .int .u8 0, .int .u8 0, .int .u8 0, .int .u8 0, .int .u8 0, .int .u8 0, .int .u8 0, .int .u8 0, .int .u8 0, .int .u8 0, .int .u8 0, .int .u8 0, .int .u8 0, .int .u8 0, .int .u8 0, .int .u8 0, .int .u8 0, .int .u8 0, .int .u8 0, .int .u8 0, .int .u8 0] := ZeroOf.of (by kernel_rfl)
instance : ZeroOf Tryd.prog 118 [.int .u8 0, .int .u8 0, .int .u8 0, .int .u8 0, .int .u8 0, .int .u8 0, .int .u8 0, .int .u8 0, .int .u8 0, .int .u8 0, .int .u8 0, .int .u8 0, .int .u8 0, .int .u8 0, .int .u8 0, .int .u8 0, .int .u8 0, .int .u8 0, .int .u8 0, .int .u8 0, .int .u8 0, .int .u8 0, .int .u8 0, .int .u8 0, .int .u8 0, .int .u8 0, .int .u8 0, .int .u8 0, .int .u8 0, .int .u8 0, .int .u8 0, .int .u8 0, .int .u8 0, .int .u8 0, .int .u8 0, .int .u8 0, .int .u8 0, .int .u8 0, .int .u8 0, .int .u8 0, .int .u8 0, .int .u8 0, .int .u8 0, .int .u8 0, .int .u8 0, .int .u8 0, .int .u8 0, .int .u8 0, .int .u8 0, .int .u8 0, .int .u8 0, .int .u8 0, .int .u8 0, .int .u8 0, .int .u8 0, .int .u8 0, .int .u8 0, .int .u8 0, .int .u8 0, .int .u8 0, .int .u8 0, .int .u8 0, .int .u8 0, .int .u8 0] := ZeroOf.of (by kernel_rfl)
instance : ArrayBuild Tryd.prog 47 1 [.int .i64 0, .int .i64 0] := ⟨fun _ => by kernel_rfl⟩
instance : ArrayBuild Tryd.prog 98 1 [.int .u64 0, .int .u64 0, .int .u64 0, .int .u64 0, .int .u64 0, .int .u64 0, .int .u64 0, .int .u64 0, .int .u64 0, .int .u64 0, .int .u64 0, .int .u64 0, .int .u64 0, .int .u64 0, .int .u64 0, .int .u64 0, .int .u64 0, .int .u64 0, .int .u64 0, .int .u64 0] := ⟨fun _ => by kernel_rfl⟩
instance : StructOf Tryd.prog 110 [(0, 1), (1, 1), (2, 1)] [.string ByteArray.empty, .string ByteArray.empty, .nilIface] := ⟨fun _ => by kernel_rfl⟩
instance : StructOf Tryd.prog 116 [(0, 1)] [.string ByteArray.empty] := ⟨fun _ => by kernel_rfl⟩
instance : ArrayBuild Tryd.prog 117 1 [.int .u8 0, .int .u8 0, .int .u8 0, .int .u8 0, .int .u8 0, .int .u8 0, .int .u8 0, .int .u8 0, .int .u8 0, .int .u8 0, .int .u8 0, .int .u8 0, .int .u8 0, .int .u8 0, .int .u8 0, .int .u8 0, .int .u8 0, .int .u8 0, .int .u8 0, .int .u8 0, .int .u8 0, .int .u8 0, .int .u8 0, .int .u8 0, .int .u8 0, .int .u8 0, .int .u8 0, .int .u8 0, .int .u8 0, .int .u8 0, .int .u8 0, .int .u8 0] := ⟨fun _ => by kernel_rfl⟩
instance : ArrayBuild Tryd.prog 118 1 [.int .u8 0, .int .u8 0, .int .u8 0, .int .u8 0, .int .u8 0, .int .u8 0, .int .u8 0, .int .u8 0, .int .u8 0, .int .u8 0, .int .u8 0, .int .u8 0, .int .u8 0, .int .u8 0, .int .u8 0, .int .u8 0, .int .u8 0, .int .u8 0, .int .u8 0, .int .u8 0, .int .u8 0, .int .u8 0, .int .u8 0, .int .u8 0, .int .u8 0, .int .u8 0, .int .u8 0, .int .u8 0, .int .u8 0, .int .u8 0, .int .u8 0, .int .u8 0, .int .u8 0, .int .u8 0, .int .u8 0, .int .u8 0, .int .u8 0, .int .u8 0, .int .u8 0, .int .u8 0, .int .u8 0, .int .u8 0, .int .u8 0, .int .u8 0, .int .u8 0, .int .u8 0, .int .u8 0, .int .u8 0, .int .u8 0, .int .u8 0, .int .u8 0, .int .u8 0, .int .u8 0, .int .u8 0, .int .u8 0, .int .u8 0, .int .u8 0, .int .u8 0, .int .u8 0, .int .u8 0, .int .u8 0, .int .u8 0, .int .u8 0, .int .u8 0] := ⟨fun _ => by kernel_rfl⟩
instance : UnderStr Tryd.prog 9 := ⟨by kernel_rfl⟩
instance : UnderStr Tryd.prog 10 := ⟨by kernel_rfl⟩
instance : UnderStr Tryd.prog 11 := ⟨by kernel_rfl⟩
instance : IntTy Tryd.prog 2 .i64 := ⟨by kernel_rfl⟩
instance : IntTy Tryd.prog 3 .i64 := ⟨by kernel_rfl⟩
instance : IntTy Tryd.prog 5 .u8 := ⟨by kernel_rfl⟩
instance : IntTy Tryd.prog 21 .i32 := ⟨by kernel_rfl⟩
instance : IntTy Tryd.prog 23 .i64 := ⟨by kernel_rfl⟩
instance : IntTy Tryd.prog 35 .u64 := ⟨by kernel_rfl⟩
instance : IntTy Tryd.prog 59 .u64 := ⟨by kernel_rfl⟩
instance : IntTy Tryd.prog 82 .u32 := ⟨by kernel_rfl⟩
instance : Callable Tryd.prog 2 := Callable.of (by kernel_rfl)
instance : Callable Tryd.prog 3 := Callable.of (by kernel_rfl)
instance : Callable Tryd.prog 4 := Callable.of (by kernel_rfl)
instance : Callable Tryd.prog 5 := Callable.of (by kernel_rfl)
instance : Callable Tryd.prog 6 := Callable.of (by kernel_rfl)
instance : Callable Tryd.prog 7 := Callable.of (by kernel_rfl)
instance : Callable Tryd.prog 8 := Callable.of (by kernel_rfl)
instance : Callable Tryd.prog 9 := Callable.of (by kernel_rfl)
instance : Callable Tryd.prog 10 := Callable.of (by kernel_rfl)
instance : Callable Tryd.prog 11 := Callable.of (by kernel_rfl)
instance : Callable Tryd.prog 12 := Callable.of (by kernel_rfl)
instance : Callable Tryd.prog 13 := Callable.of (by kernel_rfl)
instance : Callable Tryd.prog 14 := Callable.of (by kernel_rfl)
instance : Callable Tryd.prog 15 := Callable.of (by kernel_rfl)
instance : Callable Tryd.prog 16 := Callable.of (by kernel_rfl)
instance : Callable Tryd.prog 17 := Callable.of (by kernel_rfl)
instance : Callable Tryd.prog 18 := Callable.of (by kernel_rfl)
instance : Callable Tryd.prog 20 := Callable.of (by kernel_rfl)
instance : Callable Tryd.prog 21 := Callable.of (by kernel_rfl)
instance : Callable Tryd.prog 22 := Callable.of (by kernel_rfl)
instance : Callable Tryd.prog 23 := Callable.of (by kernel_rfl)
instance : Callable Tryd.prog 24 := Callable.of (by kernel_rfl)
instance : Callable Tryd.prog 25 := Callable.of (by kernel_rfl)
instance : Callable Tryd.prog 26 := Callable.of (by kernel_rfl)
instance : Callable Tryd.prog 27 := Callable.of (by kernel_rfl)
instance : Callable Tryd.prog 28 := Callable.of (by kernel_rfl)
instance : Callable Tryd.prog 29 := Callable.of (by kernel_rfl)
instance : Callable Tryd.prog 30 := Callable.of (by kernel_rfl)
instance : Callable Tryd.prog 31 := Callable.of (by kernel_rfl)
instance : Callable Tryd.prog 32 := Callable.of (by kernel_rfl)
instance : Callable Tryd.prog 33 := Callable.of (by kernel_rfl)
instance : Callable Tryd.prog 34 := Callable.of (by kernel_rfl)
instance : Callable Tryd.prog 35 := Callable.of (by kernel_rfl)
instance : Callable Tryd.prog 36 := Callable.of (by kernel_rfl)
instance : Callable Tryd.prog 37 := Callable.of (by kernel_rfl)
instance : Callable Tryd.prog 38 := Callable.of (by kernel_rfl)
instance : Callable Tryd.prog 40 := Callable.of (by kernel_rfl)
instance : Callable Tryd.prog 41 := Callable.of (by kernel_rfl)
instance : Callable Tryd.prog 42 := Callable.of (by kernel_rfl)
instance : Callable Tryd.prog 43 := Callable.of (by kernel_rfl)
instance : Callable Tryd.prog 44 := Callable.of (by kernel_rfl)
instance : Callable Tryd.prog 45 := Callable.of (by kernel_rfl)
instance : Callable Tryd.prog 46 := Callable.of (by kernel_rfl)
instance : Callable Tryd.prog 47 := Callable.of (by kernel_rfl)
instance : Callable Tryd.prog 48 := Callable.of (by kernel_rfl)
instance : Callable Tryd.prog 49 := Callable.of (by kernel_rfl)
instance : Callable Tryd.prog 50 := Callable.of (by kernel_rfl)
instance : Callable Tryd.prog 51 := Callable.of (by kernel_rfl)
instance : Callable Tryd.prog 52 := Callable.of (by kernel_rfl)
instance : Callable Tryd.prog 53 := Callable.of (by kernel_rfl)
instance : Callable Tryd.prog 54 := Callable.of (by kernel_rfl)
instance : Callable Tryd.prog 55 := Callable.of (by kernel_rfl)
instance : Callable Tryd.prog 56 := Callable.of (by kernel_rfl)
instance : Callable Tryd.prog 57 := Callable.of (by kernel_rfl)
instance : Callable Tryd.prog 58 := Callable.of (by kernel_rfl)
instance : Callable Tryd.prog 59 := Callable.of (by kernel_rfl)
instance : Callable Tryd.prog 60 := Callable.of (by kernel_rfl)
instance : Callable Tryd.prog 61 := Callable.of (by kernel_rfl)
instance : Callable Tryd.prog 62 := Callable.of (by kernel_rfl)
instance : Callable Tryd.prog 63 := Callable.of (by kernel_rfl)
instance : Callable Tryd.prog 64 := Callable.of (by kernel_rfl)
instance : Callable Tryd.prog 65 := Callable.of (by kernel_rfl)
instance : Callable Tryd.prog 66 := Callable.of (by kernel_rfl)
instance : Callable Tryd.prog 67 := Callable.of (by kernel_rfl)
instance : Callable Tryd.prog 68 := Callable.of (by kernel_rfl)
instance : Callable Tryd.prog 69 := Callable.of (by kernel_rfl)
instance : Callable Tryd.prog 70 := Callable.of (by kernel_rfl)
instance : Callable Tryd.prog 71 := Callable.of (by kernel_rfl)
instance : Callable Tryd.prog 72 := Callable.of (by kernel_rfl)
instance : Callable Tryd.prog 75 := Callable.of (by kernel_rfl)
instance : Callable Tryd.prog 77 := Callable.of (by kernel_rfl)
instance : Callable Tryd.prog 78 := Callable.of (by kernel_rfl)
instance : Callable Tryd.prog 79 := Callable.of (by kernel_rfl)
instance : Callable Tryd.prog 80 := Callable.of (by kernel_rfl)
instance : Callable Tryd.prog 81 := Callable.of (by kernel_rfl)
instance : Callable Tryd.prog 82 := Callable.of (by kernel_rfl)
instance : Callable Tryd.prog 83 := Callable.of (by kernel_rfl)
instance : Callable Tryd.prog 84 := Callable.of (by kernel_rfl)
instance : Callable Tryd.prog 85 := Callable.of (by kernel_rfl)
instance : Callable Tryd.prog 87 := Callable.of (by kernel_rfl)
instance : Callable Tryd.prog 88 := Callable.of (by kernel_rfl)
instance : Callable Tryd.prog 117 := Callable.of (by kernel_rfl)

end Go.Proofs.YtkgddnelghkdnaaDoor
