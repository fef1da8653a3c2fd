/- Facts on the types and functions of the translation, by program. No condition. -/
import Derived.Test.YtnfipmbmknlmpaaProg
import Derived.Test.YtnfipmbmknlmpaaSLDraw3
namespace Go.Proofs.Ytnfipmbmknlmpaa
open Go Go.SL

instance : Mixed Try.prog := ⟨by kernel_rfl⟩
instance : UnderPtr Try.prog 25 := ⟨by kernel_rfl⟩
instance : UnderBool Try.prog 4 := ⟨by kernel_rfl⟩
instance : FieldOff Try.prog 28 0 0 := FieldOff.of (by kernel_rfl)
instance : FieldOff Try.prog 28 1 1 := FieldOff.of (by kernel_rfl)
instance : FieldOff Try.prog 28 2 2 := FieldOff.of (by kernel_rfl)
instance : FieldOff Try.prog 31 0 0 := FieldOff.of (by kernel_rfl)
instance : FieldOff Try.prog 31 1 1 := FieldOff.of (by kernel_rfl)
instance : FieldOff Try.prog 31 2 2 := FieldOff.of (by kernel_rfl)
instance : FieldOff Try.prog 59 0 0 := FieldOff.of (by kernel_rfl)
instance : FieldOff Try.prog 59 1 1 := FieldOff.of (by kernel_rfl)
instance : FieldOff Try.prog 62 0 0 := FieldOff.of (by kernel_rfl)
instance : FieldOff Try.prog 64 0 0 := FieldOff.of (by kernel_rfl)
instance : FieldOff Try.prog 64 1 1 := FieldOff.of (by kernel_rfl)
instance : SliceOf Try.prog 22 31 3 24 [.bool false, .int .i64 0, .int .i64 0] := SliceOf.of (by kernel_rfl) (by kernel_rfl) rfl
instance : SliceOf Try.prog 23 3 1 8 [.int .i64 0] := SliceOf.of (by kernel_rfl) (by kernel_rfl) rfl
instance : SliceOf Try.prog 46 9 1 16 [.string ByteArray.empty] := SliceOf.of (by kernel_rfl) (by kernel_rfl) rfl
instance : SliceOf Try.prog 57 64 2 16 [.int .i64 0, .int .i64 0] := SliceOf.of (by kernel_rfl) (by kernel_rfl) rfl
instance : ArrayOf Try.prog 67 5 9 1 := ArrayOf.of (by kernel_rfl) (by kernel_rfl)
instance : ArrayOf Try.prog 72 5 23 1 := ArrayOf.of (by kernel_rfl) (by kernel_rfl)
instance : Plain Try.prog 3 := Plain.of (by kernel_rfl) (by kernel_rfl)
instance : Plain Try.prog 4 := Plain.of (by kernel_rfl) (by kernel_rfl)
instance : Plain Try.prog 9 := Plain.of (by kernel_rfl) (by kernel_rfl)
instance : Plain Try.prog 23 := Plain.of (by kernel_rfl) (by kernel_rfl)
instance : Plain Try.prog 57 := Plain.of (by kernel_rfl) (by kernel_rfl)
instance : Aggr Try.prog 28 3 := Aggr.of (by kernel_rfl) (by kernel_rfl)
instance : Aggr Try.prog 31 3 := Aggr.of (by kernel_rfl) (by kernel_rfl)
instance : Aggr Try.prog 62 1 := Aggr.of (by kernel_rfl) (by kernel_rfl)
instance : Aggr Try.prog 64 2 := Aggr.of (by kernel_rfl) (by kernel_rfl)
instance : Aggr Try.prog 72 5 := Aggr.of (by kernel_rfl) (by kernel_rfl)
instance : ZeroOf Try.prog 28 [.slice none 0 0, .slice none 0 0, .slice none 0 0] := ZeroOf.of (by kernel_rfl)
instance : ZeroOf Try.prog 31 [.bool false, .int .i64 0, .int .i64 0] := ZeroOf.of (by kernel_rfl)
instance : ZeroOf Try.prog 59 [.slice none 0 0, .slice none 0 0] := ZeroOf.of (by kernel_rfl)
instance : ZeroOf Try.prog 62 [.int .i64 0] := ZeroOf.of (by kernel_rfl)
instance : ZeroOf Try.prog 67 [.string ByteArray.empty, .string ByteArray.empty, .string ByteArray.empty, .string ByteArray.empty, .string ByteArray.empty] := ZeroOf.of (by kernel_rfl)
instance : ZeroOf Try.prog 72 [.slice none 0 0, .slice none 0 0, .slice none 0 0, .slice none 0 0, .slice none 0 0] := ZeroOf.of (by kernel_rfl)
instance : StructOf Try.prog 31 [(0, 1), (1, 1), (2, 1)] [.bool false, .int .i64 0, .int .i64 0] := ⟨fun _ => by kernel_rfl⟩
instance : StructOf Try.prog 59 [(0, 1), (1, 1)] [.slice none 0 0, .slice none 0 0] := ⟨fun _ => by kernel_rfl⟩
instance : ArrayBuild Try.prog 67 1 [.string ByteArray.empty, .string ByteArray.empty, .string ByteArray.empty, .string ByteArray.empty, .string ByteArray.empty] := ⟨fun _ => by kernel_rfl⟩
instance : ArrayBuild Try.prog 72 1 [.slice none 0 0, .slice none 0 0, .slice none 0 0, .slice none 0 0, .slice none 0 0] := ⟨fun _ => by kernel_rfl⟩
instance : Callable Try.prog 2 := Callable.of (by kernel_rfl)
instance : Callable Try.prog 3 := Callable.of (by kernel_rfl)
instance : Callable Try.prog 4 := Callable.of (by kernel_rfl)
instance : Callable Try.prog 5 := Callable.of (by kernel_rfl)
instance : Callable Try.prog 6 := Callable.of (by kernel_rfl)
instance : Callable Try.prog 7 := Callable.of (by kernel_rfl)
instance : Callable Try.prog 8 := Callable.of (by kernel_rfl)
instance : Callable Try.prog 9 := Callable.of (by kernel_rfl)
instance : Callable Try.prog 10 := Callable.of (by kernel_rfl)
instance : Callable Try.prog 11 := Callable.of (by kernel_rfl)
instance : Callable Try.prog 12 := Callable.of (by kernel_rfl)
instance : Callable Try.prog 13 := Callable.of (by kernel_rfl)
instance : Callable Try.prog 14 := Callable.of (by kernel_rfl)
instance : Callable Try.prog 15 := Callable.of (by kernel_rfl)
instance : Callable Try.prog 16 := Callable.of (by kernel_rfl)
instance : Callable Try.prog 17 := Callable.of (by kernel_rfl)
instance : Callable Try.prog 18 := Callable.of (by kernel_rfl)
instance : Callable Try.prog 19 := Callable.of (by kernel_rfl)
instance : Callable Try.prog 20 := Callable.of (by kernel_rfl)
instance : Callable Try.prog 21 := Callable.of (by kernel_rfl)
instance : Callable Try.prog 22 := Callable.of (by kernel_rfl)
instance : Callable Try.prog 23 := Callable.of (by kernel_rfl)
instance : Callable Try.prog 24 := Callable.of (by kernel_rfl)
instance : Callable Try.prog 25 := Callable.of (by kernel_rfl)
instance : Callable Try.prog 26 := Callable.of (by kernel_rfl)
instance : Callable Try.prog 27 := Callable.of (by kernel_rfl)
instance : Callable Try.prog 28 := Callable.of (by kernel_rfl)
instance : Callable Try.prog 29 := Callable.of (by kernel_rfl)
instance : Callable Try.prog 30 := Callable.of (by kernel_rfl)
instance : Callable Try.prog 31 := Callable.of (by kernel_rfl)
instance : Callable Try.prog 32 := Callable.of (by kernel_rfl)
instance : Callable Try.prog 33 := Callable.of (by kernel_rfl)
instance : Callable Try.prog 34 := Callable.of (by kernel_rfl)
instance : Callable Try.prog 35 := Callable.of (by kernel_rfl)
instance : Callable Try.prog 36 := Callable.of (by kernel_rfl)
instance : Callable Try.prog 37 := Callable.of (by kernel_rfl)
instance : Callable Try.prog 38 := Callable.of (by kernel_rfl)

end Go.Proofs.Ytnfipmbmknlmpaa
