/- Facts on the types and functions of the translation, by program. No condition. -/
import Derived.Test.YtgdeemneijpeeaaProg
import Derived.Test.YtgdeemneijpeeaaSLDraw3
import Derived.Test.YtgdeemneijpeeaaSLPtr
import Derived.Test.YtgdeemneijpeeaaSLMap
import Derived.Test.YtgdeemneijpeeaaSLFlat
import Derived.Test.YtgdeemneijpeeaaSLConv
namespace Go.Proofs.Ytgdeemneijpeeaa
open Go Go.SL

instance : Mixed Try.prog := ⟨by kernel_rfl⟩
instance : UnderPtr Try.prog 24 := ⟨by kernel_rfl⟩
instance : UnderPtr Try.prog 80 := ⟨by kernel_rfl⟩
instance : PtrTo Try.prog 24 := PtrTo.of (te := 64) (by kernel_rfl) (by kernel_rfl)
instance : PtrTo Try.prog 80 := PtrTo.of (te := 59) (by kernel_rfl) (by kernel_rfl)
instance : UnderBool Try.prog 4 := ⟨by kernel_rfl⟩
instance : FieldOff Try.prog 31 0 0 := FieldOff.of (by kernel_rfl)
instance : FieldOff Try.prog 31 1 1 := FieldOff.of (by kernel_rfl)
instance : FieldOff Try.prog 31 2 2 := FieldOff.of (by kernel_rfl)
instance : FieldOff Try.prog 59 0 0 := FieldOff.of (by kernel_rfl)
instance : FieldOff Try.prog 59 1 1 := FieldOff.of (by kernel_rfl)
instance : FieldOff Try.prog 59 2 2 := FieldOff.of (by kernel_rfl)
instance : FieldOff Try.prog 61 0 0 := FieldOff.of (by kernel_rfl)
instance : FieldOff Try.prog 61 1 3 := FieldOff.of (by kernel_rfl)
instance : FieldOff Try.prog 64 0 0 := FieldOff.of (by kernel_rfl)
instance : FieldOff Try.prog 64 1 64 := FieldOff.of (by kernel_rfl)
instance : FieldOff Try.prog 64 2 65 := FieldOff.of (by kernel_rfl)
instance : FieldOff Try.prog 73 0 0 := FieldOff.of (by kernel_rfl)
instance : FieldOff Try.prog 73 1 1 := FieldOff.of (by kernel_rfl)
instance : FieldOff Try.prog 87 0 0 := FieldOff.of (by kernel_rfl)
instance : FieldOff Try.prog 87 1 1 := FieldOff.of (by kernel_rfl)
instance : FieldOff Try.prog 87 2 2 := FieldOff.of (by kernel_rfl)
instance : FieldOff Try.prog 87 3 3 := FieldOff.of (by kernel_rfl)
instance : SliceOf Try.prog 22 31 3 24 [.int .i64 0, .int .i64 0, .int .i64 0] := SliceOf.of (by kernel_rfl) (by kernel_rfl) rfl
instance : SliceOf Try.prog 28 3 1 8 [.int .i64 0] := SliceOf.of (by kernel_rfl) (by kernel_rfl) rfl
instance : SliceOf Try.prog 43 73 2 32 [.int .i64 0, .slice none 0 0] := SliceOf.of (by kernel_rfl) (by kernel_rfl) rfl
instance : SliceOf Try.prog 65 61 4 32 [.map none, .int .i64 0, .int .i64 0, .int .i64 0] := SliceOf.of (by kernel_rfl) (by kernel_rfl) rfl
instance : ArrayOf Try.prog 62 16 61 4 := ArrayOf.of (by kernel_rfl) (by kernel_rfl)
instance : Plain Try.prog 3 := Plain.of (by kernel_rfl) (by kernel_rfl)
instance : Plain Try.prog 4 := Plain.of (by kernel_rfl) (by kernel_rfl)
instance : Plain Try.prog 28 := Plain.of (by kernel_rfl) (by kernel_rfl)
instance : Plain Try.prog 56 := Plain.of (by kernel_rfl) (by kernel_rfl)
instance : Plain Try.prog 57 := Plain.of (by kernel_rfl) (by kernel_rfl)
instance : Plain Try.prog 80 := Plain.of (by kernel_rfl) (by kernel_rfl)
instance : Aggr Try.prog 31 3 := Aggr.of (by kernel_rfl) (by kernel_rfl)
instance : Aggr Try.prog 73 2 := Aggr.of (by kernel_rfl) (by kernel_rfl)
instance : Aggr Try.prog 87 4 := Aggr.of (by kernel_rfl) (by kernel_rfl)
instance : ZeroOf Try.prog 28 [.slice none 0 0] := ZeroOf.of (by kernel_rfl)
instance : ZeroOf Try.prog 31 [.int .i64 0, .int .i64 0, .int .i64 0] := ZeroOf.of (by kernel_rfl)
instance : ZeroOf Try.prog 64 [.map none, .int .i64 0, .int .i64 0, .int .i64 0, .map none, .int .i64 0, .int .i64 0, .int .i64 0, .map none, .int .i64 0, .int .i64 0, .int .i64 0, .map none, .int .i64 0, .int .i64 0, .int .i64 0, .map none, .int .i64 0, .int .i64 0, .int .i64 0, .map none, .int .i64 0, .int .i64 0, .int .i64 0, .map none, .int .i64 0, .int .i64 0, .int .i64 0, .map none, .int .i64 0, .int .i64 0, .int .i64 0, .map none, .int .i64 0, .int .i64 0, .int .i64 0, .map none, .int .i64 0, .int .i64 0, .int .i64 0, .map none, .int .i64 0, .int .i64 0, .int .i64 0, .map none, .int .i64 0, .int .i64 0, .int .i64 0, .map none, .int .i64 0, .int .i64 0, .int .i64 0, .map none, .int .i64 0, .int .i64 0, .int .i64 0, .map none, .int .i64 0, .int .i64 0, .int .i64 0, .map none, .int .i64 0, .int .i64 0, .int .i64 0, .int .i64 0, .map none] := ZeroOf.of (by kernel_rfl)
instance : ZeroOf Try.prog 73 [.int .i64 0, .slice none 0 0] := ZeroOf.of (by kernel_rfl)
instance : ZeroOf Try.prog 80 [.pointer none] := ZeroOf.of (by kernel_rfl)
instance : ZeroOf Try.prog 87 [.int .i64 0, .int .i64 0, .bool false, .bool false] := ZeroOf.of (by kernel_rfl)
instance : StructOf Try.prog 31 [(0, 1), (1, 1), (2, 1)] [.int .i64 0, .int .i64 0, .int .i64 0] := ⟨fun _ => by kernel_rfl⟩
instance : StructOf Try.prog 64 [(0, 64), (64, 1), (65, 1)] [.map none, .int .i64 0, .int .i64 0, .int .i64 0, .map none, .int .i64 0, .int .i64 0, .int .i64 0, .map none, .int .i64 0, .int .i64 0, .int .i64 0, .map none, .int .i64 0, .int .i64 0, .int .i64 0, .map none, .int .i64 0, .int .i64 0, .int .i64 0, .map none, .int .i64 0, .int .i64 0, .int .i64 0, .map none, .int .i64 0, .int .i64 0, .int .i64 0, .map none, .int .i64 0, .int .i64 0, .int .i64 0, .map none, .int .i64 0, .int .i64 0, .int .i64 0, .map none, .int .i64 0, .int .i64 0, .int .i64 0, .map none, .int .i64 0, .int .i64 0, .int .i64 0, .map none, .int .i64 0, .int .i64 0, .int .i64 0, .map none, .int .i64 0, .int .i64 0, .int .i64 0, .map none, .int .i64 0, .int .i64 0, .int .i64 0, .map none, .int .i64 0, .int .i64 0, .int .i64 0, .map none, .int .i64 0, .int .i64 0, .int .i64 0, .int .i64 0, .map none] := ⟨fun _ => by kernel_rfl⟩
instance : StructOf Try.prog 73 [(0, 1), (1, 1)] [.int .i64 0, .slice none 0 0] := ⟨fun _ => by kernel_rfl⟩
instance : StructOf Try.prog 87 [(0, 1), (1, 1), (2, 1), (3, 1)] [.int .i64 0, .int .i64 0, .bool false, .bool false] := ⟨fun _ => by kernel_rfl⟩
instance : MapOf Try.prog 56 (.int .i64 0) := MapOf.of (kt := 3) (e := 3) (by kernel_rfl) (by kernel_rfl) (by kernel_rfl)
instance : MapOf Try.prog 57 (.agg #[.int .i64 0, .int .i64 0, .bool false, .bool false]) := MapOf.of (kt := 3) (e := 87) (by kernel_rfl) (by kernel_rfl) (by kernel_rfl)
instance : UnderStr Try.prog 9 := ⟨by kernel_rfl⟩
instance : UnderStr Try.prog 10 := ⟨by kernel_rfl⟩
instance : UnderStr Try.prog 11 := ⟨by kernel_rfl⟩
instance : IntTy Try.prog 3 .i64 := ⟨by kernel_rfl⟩
instance : IntTy Try.prog 5 .u8 := ⟨by kernel_rfl⟩
instance : IntTy Try.prog 25 .i64 := ⟨by kernel_rfl⟩
instance : Callable Try.prog 2 := Callable.of (by kernel_rfl)
instance : Callable Try.prog 3 := Callable.of (by kernel_rfl)
instance : Callable Try.prog 4 := Callable.of (by kernel_rfl)
instance : Callable Try.prog 5 := Callable.of (by kernel_rfl)
instance : Callable Try.prog 6 := Callable.of (by kernel_rfl)
instance : Callable Try.prog 7 := Callable.of (by kernel_rfl)
instance : Callable Try.prog 8 := Callable.of (by kernel_rfl)
instance : Callable Try.prog 9 := Callable.of (by kernel_rfl)
instance : Callable Try.prog 10 := Callable.of (by kernel_rfl)
instance : Callable Try.prog 11 := Callable.of (by kernel_rfl)
instance : Callable Try.prog 12 := Callable.of (by kernel_rfl)
instance : Callable Try.prog 13 := Callable.of (by kernel_rfl)
instance : Callable Try.prog 14 := Callable.of (by kernel_rfl)
instance : Callable Try.prog 15 := Callable.of (by kernel_rfl)
instance : Callable Try.prog 16 := Callable.of (by kernel_rfl)
instance : Callable Try.prog 17 := Callable.of (by kernel_rfl)
instance : Callable Try.prog 18 := Callable.of (by kernel_rfl)
instance : Callable Try.prog 19 := Callable.of (by kernel_rfl)
instance : Callable Try.prog 20 := Callable.of (by kernel_rfl)
instance : Callable Try.prog 21 := Callable.of (by kernel_rfl)
instance : Callable Try.prog 22 := Callable.of (by kernel_rfl)
instance : Callable Try.prog 23 := Callable.of (by kernel_rfl)
instance : Callable Try.prog 24 := Callable.of (by kernel_rfl)
instance : Callable Try.prog 25 := Callable.of (by kernel_rfl)
instance : Callable Try.prog 26 := Callable.of (by kernel_rfl)
instance : Callable Try.prog 27 := Callable.of (by kernel_rfl)
instance : Callable Try.prog 28 := Callable.of (by kernel_rfl)
instance : Callable Try.prog 29 := Callable.of (by kernel_rfl)
instance : Callable Try.prog 30 := Callable.of (by kernel_rfl)
instance : Callable Try.prog 31 := Callable.of (by kernel_rfl)
instance : Callable Try.prog 32 := Callable.of (by kernel_rfl)
instance : Callable Try.prog 33 := Callable.of (by kernel_rfl)
instance : Callable Try.prog 34 := Callable.of (by kernel_rfl)
instance : Callable Try.prog 35 := Callable.of (by kernel_rfl)
instance : Callable Try.prog 36 := Callable.of (by kernel_rfl)
instance : Callable Try.prog 37 := Callable.of (by kernel_rfl)
instance : Callable Try.prog 38 := Callable.of (by kernel_rfl)
instance : Callable Try.prog 39 := Callable.of (by kernel_rfl)
instance : Callable Try.prog 40 := Callable.of (by kernel_rfl)
instance : Callable Try.prog 41 := Callable.of (by kernel_rfl)
instance : Callable Try.prog 42 := Callable.of (by kernel_rfl)
instance : Callable Try.prog 43 := Callable.of (by kernel_rfl)
instance : Callable Try.prog 44 := Callable.of (by kernel_rfl)
instance : Callable Try.prog 45 := Callable.of (by kernel_rfl)
instance : Callable Try.prog 46 := Callable.of (by kernel_rfl)

end Go.Proofs.Ytgdeemneijpeeaa
