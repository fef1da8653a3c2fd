/- Facts on the types and functions of the translation, by program. No condition. -/
import Derived.Test.YtcnpcmdcbafaeaaProg
import Derived.Test.YtcnpcmdcbafaeaaSLDraw3
import Derived.Test.YtcnpcmdcbafaeaaSLPtr
import Derived.Test.YtcnpcmdcbafaeaaSLMap
namespace Go.Proofs.Ytcnpcmdcbafaeaa
open Go Go.SL

instance : Mixed Try.prog := ⟨by kernel_rfl⟩
instance : UnderPtr Try.prog 24 := ⟨by kernel_rfl⟩
instance : PtrTo Try.prog 24 := PtrTo.of (te := 58) (by kernel_rfl) (by kernel_rfl)
instance : UnderBool Try.prog 4 := ⟨by kernel_rfl⟩
instance : FieldOff Try.prog 43 0 0 := FieldOff.of (by kernel_rfl)
instance : FieldOff Try.prog 43 1 1 := FieldOff.of (by kernel_rfl)
instance : FieldOff Try.prog 48 0 0 := FieldOff.of (by kernel_rfl)
instance : FieldOff Try.prog 48 1 1 := FieldOff.of (by kernel_rfl)
instance : FieldOff Try.prog 48 2 2 := FieldOff.of (by kernel_rfl)
instance : FieldOff Try.prog 56 0 0 := FieldOff.of (by kernel_rfl)
instance : FieldOff Try.prog 58 0 0 := FieldOff.of (by kernel_rfl)
instance : FieldOff Try.prog 58 1 1 := FieldOff.of (by kernel_rfl)
instance : SliceOf Try.prog 22 3 1 8 [.int .i64 0] := SliceOf.of (by kernel_rfl) (by kernel_rfl) rfl
instance : SliceOf Try.prog 34 4 1 1 [.bool false] := SliceOf.of (by kernel_rfl) (by kernel_rfl) rfl
instance : SliceOf Try.prog 39 48 3 40 [.int .i64 0, .int .i64 0, .slice none 0 0] := SliceOf.of (by kernel_rfl) (by kernel_rfl) rfl
instance : Plain Try.prog 3 := Plain.of (by kernel_rfl) (by kernel_rfl)
instance : Plain Try.prog 4 := Plain.of (by kernel_rfl) (by kernel_rfl)
instance : Plain Try.prog 22 := Plain.of (by kernel_rfl) (by kernel_rfl)
instance : Plain Try.prog 24 := Plain.of (by kernel_rfl) (by kernel_rfl)
instance : Plain Try.prog 54 := Plain.of (by kernel_rfl) (by kernel_rfl)
instance : Aggr Try.prog 43 2 := Aggr.of (by kernel_rfl) (by kernel_rfl)
instance : Aggr Try.prog 48 3 := Aggr.of (by kernel_rfl) (by kernel_rfl)
instance : Aggr Try.prog 56 1 := Aggr.of (by kernel_rfl) (by kernel_rfl)
instance : ZeroOf Try.prog 3 [.int .i64 0] := ZeroOf.of (by kernel_rfl)
instance : ZeroOf Try.prog 22 [.slice none 0 0] := ZeroOf.of (by kernel_rfl)
instance : ZeroOf Try.prog 24 [.pointer none] := ZeroOf.of (by kernel_rfl)
instance : ZeroOf Try.prog 43 [.int .i64 0, .slice none 0 0] := ZeroOf.of (by kernel_rfl)
instance : ZeroOf Try.prog 48 [.int .i64 0, .int .i64 0, .slice none 0 0] := ZeroOf.of (by kernel_rfl)
instance : ZeroOf Try.prog 58 [.int .u64 0, .slice none 0 0] := ZeroOf.of (by kernel_rfl)
instance : StructOf Try.prog 43 [(0, 1), (1, 1)] [.int .i64 0, .slice none 0 0] := ⟨fun _ => by kernel_rfl⟩
instance : StructOf Try.prog 48 [(0, 1), (1, 1), (2, 1)] [.int .i64 0, .int .i64 0, .slice none 0 0] := ⟨fun _ => by kernel_rfl⟩
instance : StructOf Try.prog 58 [(0, 1), (1, 1)] [.int .u64 0, .slice none 0 0] := ⟨fun _ => by kernel_rfl⟩
instance : IntTy Try.prog 3 .i64 := ⟨by kernel_rfl⟩
instance : IntTy Try.prog 5 .u8 := ⟨by kernel_rfl⟩
instance : IntTy Try.prog 25 .i64 := ⟨by kernel_rfl⟩
instance : IntTy Try.prog 54 .u64 := ⟨by kernel_rfl⟩
instance : IntTy Try.prog 65 .u32 := ⟨by kernel_rfl⟩
instance : Callable Try.prog 2 := Callable.of (by kernel_rfl)
instance : Callable Try.prog 3 := Callable.of (by kernel_rfl)
instance : Callable Try.prog 4 := Callable.of (by kernel_rfl)
instance : Callable Try.prog 5 := Callable.of (by kernel_rfl)
instance : Callable Try.prog 6 := Callable.of (by kernel_rfl)
instance : Callable Try.prog 7 := Callable.of (by kernel_rfl)
instance : Callable Try.prog 8 := Callable.of (by kernel_rfl)
instance : Callable Try.prog 9 := Callable.of (by kernel_rfl)
instance : Callable Try.prog 10 := Callable.of (by kernel_rfl)
instance : Callable Try.prog 11 := Callable.of (by kernel_rfl)
instance : Callable Try.prog 12 := Callable.of (by kernel_rfl)
instance : Callable Try.prog 13 := Callable.of (by kernel_rfl)
instance : Callable Try.prog 14 := Callable.of (by kernel_rfl)
instance : Callable Try.prog 15 := Callable.of (by kernel_rfl)
instance : Callable Try.prog 16 := Callable.of (by kernel_rfl)
instance : Callable Try.prog 17 := Callable.of (by kernel_rfl)
instance : Callable Try.prog 18 := Callable.of (by kernel_rfl)
instance : Callable Try.prog 19 := Callable.of (by kernel_rfl)
instance : Callable Try.prog 20 := Callable.of (by kernel_rfl)
instance : Callable Try.prog 21 := Callable.of (by kernel_rfl)
instance : Callable Try.prog 22 := Callable.of (by kernel_rfl)
instance : Callable Try.prog 23 := Callable.of (by kernel_rfl)
instance : Callable Try.prog 24 := Callable.of (by kernel_rfl)
instance : Callable Try.prog 25 := Callable.of (by kernel_rfl)
instance : Callable Try.prog 26 := Callable.of (by kernel_rfl)
instance : Callable Try.prog 27 := Callable.of (by kernel_rfl)
instance : Callable Try.prog 28 := Callable.of (by kernel_rfl)
instance : Callable Try.prog 29 := Callable.of (by kernel_rfl)
instance : Callable Try.prog 30 := Callable.of (by kernel_rfl)
instance : Callable Try.prog 31 := Callable.of (by kernel_rfl)
instance : Callable Try.prog 32 := Callable.of (by kernel_rfl)
instance : Callable Try.prog 33 := Callable.of (by kernel_rfl)
instance : Callable Try.prog 34 := Callable.of (by kernel_rfl)
instance : Callable Try.prog 35 := Callable.of (by kernel_rfl)
instance : Callable Try.prog 36 := Callable.of (by kernel_rfl)
instance : Callable Try.prog 37 := Callable.of (by kernel_rfl)
instance : Callable Try.prog 38 := Callable.of (by kernel_rfl)
instance : Callable Try.prog 39 := Callable.of (by kernel_rfl)
instance : Callable Try.prog 40 := Callable.of (by kernel_rfl)
instance : Callable Try.prog 41 := Callable.of (by kernel_rfl)
instance : Callable Try.prog 42 := Callable.of (by kernel_rfl)
instance : Callable Try.prog 43 := Callable.of (by kernel_rfl)
instance : Callable Try.prog 44 := Callable.of (by kernel_rfl)
instance : Callable Try.prog 45 := Callable.of (by kernel_rfl)
instance : Callable Try.prog 46 := Callable.of (by kernel_rfl)
instance : Callable Try.prog 47 := Callable.of (by kernel_rfl)
instance : Callable Try.prog 48 := Callable.of (by kernel_rfl)
instance : Callable Try.prog 49 := Callable.of (by kernel_rfl)
instance : Callable Try.prog 50 := Callable.of (by kernel_rfl)
instance : Callable Try.prog 51 := Callable.of (by kernel_rfl)
instance : Callable Try.prog 52 := Callable.of (by kernel_rfl)
instance : Callable Try.prog 53 := Callable.of (by kernel_rfl)
instance : Callable Try.prog 54 := Callable.of (by kernel_rfl)

end Go.Proofs.Ytcnpcmdcbafaeaa
