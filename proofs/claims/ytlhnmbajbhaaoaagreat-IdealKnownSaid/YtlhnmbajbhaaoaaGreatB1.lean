/- Facts on the types and functions of the translation, by program. The library's functions on slices, at the kinds that occur here. The table, as a thing of lists: what the program's functions do. The table: what statuses may become. The table: what makes it, and turns it. The table: making a goroutine, setting its status. The table: copying it, comparing two. The table's contracts, found by its address. What a loop over a function gives, collected. A line of numbers: what is read. A line of numbers: all of it. No condition. -/
import Derived.Test.YtlhnmbajbhaaoaaGreatProg
import Derived.Test.YtlhnmbajbhaaoaaGreatSL2
import Derived.Test.YtlhnmbajbhaaoaaGreatSL3
namespace Go.Proofs.YtlhnmbajbhaaoaaGreat
open Go Go.SL

instance : Mixed Tryz.prog := ⟨by kernel_rfl⟩
instance : UnderPtr Tryz.prog 26 := ⟨by kernel_rfl⟩
instance : UnderPtr Tryz.prog 70 := ⟨by kernel_rfl⟩
instance : UnderPtr Tryz.prog 73 := ⟨by kernel_rfl⟩
instance : UnderPtr Tryz.prog 151 := ⟨by kernel_rfl⟩
instance : PtrTo Tryz.prog 26 := PtrTo.of (te := 75) (by kernel_rfl) (by kernel_rfl)
instance : PtrTo Tryz.prog 70 := PtrTo.of (te := 111) (by kernel_rfl) (by kernel_rfl)
instance : PtrTo Tryz.prog 73 := PtrTo.of (te := 120) (by kernel_rfl) (by kernel_rfl)
instance : PtrTo Tryz.prog 151 := PtrTo.of (te := 115) (by kernel_rfl) (by kernel_rfl)
instance : UnderBool Tryz.prog 4 := ⟨by kernel_rfl⟩
instance : FieldOff Tryz.prog 23 0 0 := FieldOff.of (by kernel_rfl)
instance : FieldOff Tryz.prog 23 1 1 := FieldOff.of (by kernel_rfl)
instance : FieldOff Tryz.prog 23 2 2 := FieldOff.of (by kernel_rfl)
instance : FieldOff Tryz.prog 23 3 3 := FieldOff.of (by kernel_rfl)
instance : FieldOff Tryz.prog 23 4 4 := FieldOff.of (by kernel_rfl)
instance : FieldOff Tryz.prog 23 5 5 := FieldOff.of (by kernel_rfl)
instance : FieldOff Tryz.prog 28 0 0 := FieldOff.of (by kernel_rfl)
instance : FieldOff Tryz.prog 28 2 2 := FieldOff.of (by kernel_rfl)
instance : FieldOff Tryz.prog 28 3 3 := FieldOff.of (by kernel_rfl)
instance : FieldOff Tryz.prog 28 5 5 := FieldOff.of (by kernel_rfl)
instance : FieldOff Tryz.prog 31 0 0 := FieldOff.of (by kernel_rfl)
instance : FieldOff Tryz.prog 31 1 1 := FieldOff.of (by kernel_rfl)
instance : FieldOff Tryz.prog 31 2 2 := FieldOff.of (by kernel_rfl)
instance : FieldOff Tryz.prog 35 0 0 := FieldOff.of (by kernel_rfl)
instance : FieldOff Tryz.prog 35 1 6 := FieldOff.of (by kernel_rfl)
instance : FieldOff Tryz.prog 35 2 9 := FieldOff.of (by kernel_rfl)
instance : FieldOff Tryz.prog 35 3 10 := FieldOff.of (by kernel_rfl)
instance : FieldOff Tryz.prog 35 4 11 := FieldOff.of (by kernel_rfl)
instance : FieldOff Tryz.prog 35 5 12 := FieldOff.of (by kernel_rfl)
instance : FieldOff Tryz.prog 35 6 13 := FieldOff.of (by kernel_rfl)
instance : FieldOff Tryz.prog 49 0 0 := FieldOff.of (by kernel_rfl)
instance : FieldOff Tryz.prog 49 1 1 := FieldOff.of (by kernel_rfl)
instance : FieldOff Tryz.prog 49 2 2 := FieldOff.of (by kernel_rfl)
instance : FieldOff Tryz.prog 57 0 0 := FieldOff.of (by kernel_rfl)
instance : FieldOff Tryz.prog 57 1 1 := FieldOff.of (by kernel_rfl)
instance : FieldOff Tryz.prog 57 2 2 := FieldOff.of (by kernel_rfl)
instance : FieldOff Tryz.prog 57 3 3 := FieldOff.of (by kernel_rfl)
instance : FieldOff Tryz.prog 57 4 4 := FieldOff.of (by kernel_rfl)
instance : FieldOff Tryz.prog 59 0 0 := FieldOff.of (by kernel_rfl)
instance : FieldOff Tryz.prog 59 1 1 := FieldOff.of (by kernel_rfl)
instance : FieldOff Tryz.prog 59 2 2 := FieldOff.of (by kernel_rfl)
instance : FieldOff Tryz.prog 59 3 3 := FieldOff.of (by kernel_rfl)
instance : FieldOff Tryz.prog 59 4 4 := FieldOff.of (by kernel_rfl)
instance : FieldOff Tryz.prog 75 0 0 := FieldOff.of (by kernel_rfl)
instance : FieldOff Tryz.prog 75 1 6 := FieldOff.of (by kernel_rfl)
instance : FieldOff Tryz.prog 75 2 7 := FieldOff.of (by kernel_rfl)
instance : FieldOff Tryz.prog 75 3 8 := FieldOff.of (by kernel_rfl)
instance : FieldOff Tryz.prog 75 4 9 := FieldOff.of (by kernel_rfl)
instance : FieldOff Tryz.prog 75 5 10 := FieldOff.of (by kernel_rfl)
instance : FieldOff Tryz.prog 80 0 0 := FieldOff.of (by kernel_rfl)
instance : FieldOff Tryz.prog 80 1 3 := FieldOff.of (by kernel_rfl)
instance : FieldOff Tryz.prog 86 0 0 := FieldOff.of (by kernel_rfl)
instance : FieldOff Tryz.prog 86 1 1 := FieldOff.of (by kernel_rfl)
instance : FieldOff Tryz.prog 86 2 2 := FieldOff.of (by kernel_rfl)
instance : FieldOff Tryz.prog 86 3 3 := FieldOff.of (by kernel_rfl)
instance : FieldOff Tryz.prog 90 0 0 := FieldOff.of (by kernel_rfl)
instance : FieldOff Tryz.prog 90 1 1 := FieldOff.of (by kernel_rfl)
instance : FieldOff Tryz.prog 90 2 2 := FieldOff.of (by kernel_rfl)
instance : FieldOff Tryz.prog 90 3 3 := FieldOff.of (by kernel_rfl)
instance : FieldOff Tryz.prog 111 0 0 := FieldOff.of (by kernel_rfl)
instance : FieldOff Tryz.prog 111 1 1 := FieldOff.of (by kernel_rfl)
instance : FieldOff Tryz.prog 115 0 0 := FieldOff.of (by kernel_rfl)
instance : FieldOff Tryz.prog 115 1 1 := FieldOff.of (by kernel_rfl)
instance : FieldOff Tryz.prog 115 2 2 := FieldOff.of (by kernel_rfl)
instance : FieldOff Tryz.prog 117 0 0 := FieldOff.of (by kernel_rfl)
instance : FieldOff Tryz.prog 117 1 3 := FieldOff.of (by kernel_rfl)
instance : FieldOff Tryz.prog 120 0 0 := FieldOff.of (by kernel_rfl)
instance : FieldOff Tryz.prog 120 1 64 := FieldOff.of (by kernel_rfl)
instance : FieldOff Tryz.prog 120 2 65 := FieldOff.of (by kernel_rfl)
instance : FieldOff Tryz.prog 123 0 0 := FieldOff.of (by kernel_rfl)
instance : FieldOff Tryz.prog 125 0 0 := FieldOff.of (by kernel_rfl)
instance : FieldOff Tryz.prog 125 1 1 := FieldOff.of (by kernel_rfl)
instance : FieldOff Tryz.prog 144 0 0 := FieldOff.of (by kernel_rfl)
instance : FieldOff Tryz.prog 144 1 1 := FieldOff.of (by kernel_rfl)
instance : FieldOff Tryz.prog 144 2 2 := FieldOff.of (by kernel_rfl)
instance : FieldOff Tryz.prog 158 0 0 := FieldOff.of (by kernel_rfl)
instance : FieldOff Tryz.prog 158 1 1 := FieldOff.of (by kernel_rfl)
instance : FieldOff Tryz.prog 158 2 2 := FieldOff.of (by kernel_rfl)
instance : FieldOff Tryz.prog 158 3 3 := FieldOff.of (by kernel_rfl)
instance : SliceOf Tryz.prog 24 59 5 40 [.int .i64 0, .int .i64 0, .int .i64 0, .int .i64 0, .int .i64 0] := SliceOf.of (by kernel_rfl) (by kernel_rfl) rfl
instance : SliceOf Tryz.prog 29 3 1 8 [.int .i64 0] := SliceOf.of (by kernel_rfl) (by kernel_rfl) rfl
instance : SliceOf Tryz.prog 32 29 1 24 [.slice none 0 0] := SliceOf.of (by kernel_rfl) (by kernel_rfl) rfl
instance : SliceOf Tryz.prog 33 86 4 32 [.int .i64 0, .int .i64 0, .int .i64 0, .int .i64 0] := SliceOf.of (by kernel_rfl) (by kernel_rfl) rfl
instance : SliceOf Tryz.prog 41 57 5 40 [.int .i64 0, .int .i64 0, .int .i64 0, .int .i64 0, .int .i64 0] := SliceOf.of (by kernel_rfl) (by kernel_rfl) rfl
instance : SliceOf Tryz.prog 72 80 4 32 [.int .i64 0, .int .i64 0, .int .i64 0, .int .i64 0] := SliceOf.of (by kernel_rfl) (by kernel_rfl) rfl
instance : SliceOf Tryz.prog 109 125 2 16 [.int .i64 0, .int .i64 0] := SliceOf.of (by kernel_rfl) (by kernel_rfl) rfl
instance : SliceOf Tryz.prog 121 117 4 32 [.map none, .int .i64 0, .int .i64 0, .int .i64 0] := SliceOf.of (by kernel_rfl) (by kernel_rfl) rfl
instance : SliceOf Tryz.prog 147 5 1 1 [.int .u8 0] := SliceOf.of (by kernel_rfl) (by kernel_rfl) rfl
instance : ArrayOf Tryz.prog 91 17 90 4 := ArrayOf.of (by kernel_rfl) (by kernel_rfl)
instance : ArrayOf Tryz.prog 118 16 117 4 := ArrayOf.of (by kernel_rfl) (by kernel_rfl)
instance : ArrayOf Tryz.prog 136 2 3 1 := ArrayOf.of (by kernel_rfl) (by kernel_rfl)
instance : ArrayOf Tryz.prog 145 4 144 3 := ArrayOf.of (by kernel_rfl) (by kernel_rfl)
instance : ArrayOf Tryz.prog 161 5 29 1 := ArrayOf.of (by kernel_rfl) (by kernel_rfl)
instance : Plain Tryz.prog 3 := Plain.of (by kernel_rfl) (by kernel_rfl)
instance : Plain Tryz.prog 4 := Plain.of (by kernel_rfl) (by kernel_rfl)
instance : Plain Tryz.prog 5 := Plain.of (by kernel_rfl) (by kernel_rfl)
instance : Plain Tryz.prog 9 := Plain.of (by kernel_rfl) (by kernel_rfl)
instance : Plain Tryz.prog 29 := Plain.of (by kernel_rfl) (by kernel_rfl)
instance : Plain Tryz.prog 32 := Plain.of (by kernel_rfl) (by kernel_rfl)
instance : Plain Tryz.prog 33 := Plain.of (by kernel_rfl) (by kernel_rfl)
instance : Plain Tryz.prog 70 := Plain.of (by kernel_rfl) (by kernel_rfl)
instance : Plain Tryz.prog 72 := Plain.of (by kernel_rfl) (by kernel_rfl)
instance : Plain Tryz.prog 73 := Plain.of (by kernel_rfl) (by kernel_rfl)
instance : Plain Tryz.prog 87 := Plain.of (by kernel_rfl) (by kernel_rfl)
instance : Plain Tryz.prog 109 := Plain.of (by kernel_rfl) (by kernel_rfl)
instance : Plain Tryz.prog 112 := Plain.of (by kernel_rfl) (by kernel_rfl)
instance : Plain Tryz.prog 113 := Plain.of (by kernel_rfl) (by kernel_rfl)
instance : Plain Tryz.prog 151 := Plain.of (by kernel_rfl) (by kernel_rfl)
instance : Aggr Tryz.prog 23 6 := Aggr.of (by kernel_rfl) (by kernel_rfl)
instance : Aggr Tryz.prog 28 6 := Aggr.of (by kernel_rfl) (by kernel_rfl)
instance : Aggr Tryz.prog 31 3 := Aggr.of (by kernel_rfl) (by kernel_rfl)
instance : Aggr Tryz.prog 35 14 := Aggr.of (by kernel_rfl) (by kernel_rfl)
instance : Aggr Tryz.prog 49 3 := Aggr.of (by kernel_rfl) (by kernel_rfl)
instance : Aggr Tryz.prog 57 5 := Aggr.of (by kernel_rfl) (by kernel_rfl)
instance : Aggr Tryz.prog 59 5 := Aggr.of (by kernel_rfl) (by kernel_rfl)
instance : Aggr Tryz.prog 80 4 := Aggr.of (by kernel_rfl) (by kernel_rfl)
instance : Aggr Tryz.prog 86 4 := Aggr.of (by kernel_rfl) (by kernel_rfl)
instance : Aggr Tryz.prog 90 4 := Aggr.of (by kernel_rfl) (by kernel_rfl)
instance : Aggr Tryz.prog 91 68 := Aggr.of (by kernel_rfl) (by kernel_rfl)
instance : Aggr Tryz.prog 123 1 := Aggr.of (by kernel_rfl) (by kernel_rfl)
instance : Aggr Tryz.prog 144 3 := Aggr.of (by kernel_rfl) (by kernel_rfl)
instance : Aggr Tryz.prog 158 4 := Aggr.of (by kernel_rfl) (by kernel_rfl)
instance : Aggr Tryz.prog 161 5 := Aggr.of (by kernel_rfl) (by kernel_rfl)
instance : ZeroOf Tryz.prog 23 [.int .i64 0, .int .i64 0, .int .i64 0, .int .i64 0, .int .i64 0, .int .i64 0] := ZeroOf.of (by kernel_rfl)
instance : ZeroOf Tryz.prog 28 [.int .i64 0, .int .i64 0, .int .i64 0, .int .i64 0, .int .i64 0, .int .i64 0] := ZeroOf.of (by kernel_rfl)
instance : ZeroOf Tryz.prog 29 [.slice none 0 0] := ZeroOf.of (by kernel_rfl)
instance : ZeroOf Tryz.prog 31 [.slice none 0 0, .slice none 0 0, .slice none 0 0] := ZeroOf.of (by kernel_rfl)
instance : ZeroOf Tryz.prog 35 [.int .i64 0, .int .i64 0, .int .i64 0, .int .i64 0, .int .i64 0, .int .i64 0, .slice none 0 0, .slice none 0 0, .slice none 0 0, .slice none 0 0, .slice none 0 0, .slice none 0 0, .slice none 0 0, .int .i64 0] := ZeroOf.of (by kernel_rfl)
instance : ZeroOf Tryz.prog 49 [.int .i64 0, .int .i64 0, .int .i64 0] := ZeroOf.of (by kernel_rfl)
instance : ZeroOf Tryz.prog 57 [.int .i64 0, .int .i64 0, .int .i64 0, .int .i64 0, .int .i64 0] := ZeroOf.of (by kernel_rfl)
instance : ZeroOf Tryz.prog 59 [.int .i64 0, .int .i64 0, .int .i64 0, .int .i64 0, .int .i64 0] := ZeroOf.of (by kernel_rfl)
instance : ZeroOf Tryz.prog 75 [.int .i64 0, .int .i64 0, .int .i64 0, .int .i64 0, .int .i64 0, .int .i64 0, .pointer none, .pointer none, .slice none 0 0, .slice none 0 0, .int .i64 0] := ZeroOf.of (by kernel_rfl)
instance : ZeroOf Tryz.prog 80 [.int .i64 0, .int .i64 0, .int .i64 0, .int .i64 0] := ZeroOf.of (by kernel_rfl)
instance : ZeroOf Tryz.prog 86 [.int .i64 0, .int .i64 0, .int .i64 0, .int .i64 0] := ZeroOf.of (by kernel_rfl)
instance : ZeroOf Tryz.prog 90 [.string ByteArray.empty, .int .i64 0, .nilFunc, .nilFunc] := ZeroOf.of (by kernel_rfl)
instance : ZeroOf Tryz.prog 91 [.string ByteArray.empty, .int .i64 0, .nilFunc, .nilFunc, .string ByteArray.empty, .int .i64 0, .nilFunc, .nilFunc, .string ByteArray.empty, .int .i64 0, .nilFunc, .nilFunc, .string ByteArray.empty, .int .i64 0, .nilFunc, .nilFunc, .string ByteArray.empty, .int .i64 0, .nilFunc, .nilFunc, .string ByteArray.empty, .int .i64 0, .nilFunc, .nilFunc, .string ByteArray.empty, .int .i64 0, .nilFunc, .nilFunc, .string ByteArray.empty, .int .i64 0, .nilFunc, .nilFunc, .string ByteArray.empty, .int .i64 0, .nilFunc, .nilFunc, .string ByteArray.empty, .int .i64 0, .nilFunc, .nilFunc, .string ByteArray.empty, .int .i64 0, .nilFunc, .nilFunc, .string ByteArray.empty, .int .i64 0, .nilFunc, .nilFunc, .string ByteArray.empty, .int .i64 0, .nilFunc, .nilFunc, .string ByteArray.empty, .int .i64 0, .nilFunc, .nilFunc, .string ByteArray.empty, .int .i64 0, .nilFunc, .nilFunc, .string ByteArray.empty, .int .i64 0, .nilFunc, .nilFunc, .string ByteArray.empty, .int .i64 0, .nilFunc, .nilFunc] := ZeroOf.of (by kernel_rfl)
instance : ZeroOf Tryz.prog 111 [.slice none 0 0, .slice none 0 0] := ZeroOf.of (by kernel_rfl)
instance : ZeroOf Tryz.prog 120 [.map none, .int .i64 0, .int .i64 0, .int .i64 0, .map none, .int .i64 0, .int .i64 0, .int .i64 0, .map none, .int .i64 0, .int .i64 0, .int .i64 0, .map none, .int .i64 0, .int .i64 0, .int .i64 0, .map none, .int .i64 0, .int .i64 0, .int .i64 0, .map none, .int .i64 0, .int .i64 0, .int .i64 0, .map none, .int .i64 0, .int .i64 0, .int .i64 0, .map none, .int .i64 0, .int .i64 0, .int .i64 0, .map none, .int .i64 0, .int .i64 0, .int .i64 0, .map none, .int .i64 0, .int .i64 0, .int .i64 0, .map none, .int .i64 0, .int .i64 0, .int .i64 0, .map none, .int .i64 0, .int .i64 0, .int .i64 0, .map none, .int .i64 0, .int .i64 0, .int .i64 0, .map none, .int .i64 0, .int .i64 0, .int .i64 0, .map none, .int .i64 0, .int .i64 0, .int .i64 0, .map none, .int .i64 0, .int .i64 0, .int .i64 0, .int .i64 0, .map none] := ZeroOf.of (by kernel_rfl)
instance : ZeroOf Tryz.prog 123 [.int .i64 0] := ZeroOf.of (by kernel_rfl)
instance : ZeroOf Tryz.prog 136 [.int .i64 0, .int .i64 0] := ZeroOf.of (by kernel_rfl)
instance : ZeroOf Tryz.prog 144 [.int .u8 0, .int .i64 0, .int .i64 0] := ZeroOf.of (by kernel_rfl)
instance : ZeroOf Tryz.prog 145 [.int .u8 0, .int .i64 0, .int .i64 0, .int .u8 0, .int .i64 0, .int .i64 0, .int .u8 0, .int .i64 0, .int .i64 0, .int .u8 0, .int .i64 0, .int .i64 0] := ZeroOf.of (by kernel_rfl)
instance : ZeroOf Tryz.prog 151 [.pointer none] := ZeroOf.of (by kernel_rfl)
instance : ZeroOf Tryz.prog 158 [.int .i64 0, .int .i64 0, .bool false, .bool false] := ZeroOf.of (by kernel_rfl)
instance : ZeroOf Tryz.prog 161 [.slice none 0 0, .slice none 0 0, .slice none 0 0, .slice none 0 0, .slice none 0 0] := ZeroOf.of (by kernel_rfl)
instance : StructOf Tryz.prog 23 [(0, 1), (1, 1), (2, 1), (3, 1), (4, 1), (5, 1)] [.int .i64 0, .int .i64 0, .int .i64 0, .int .i64 0, .int .i64 0, .int .i64 0] := ⟨fun _ => by kernel_rfl⟩
instance : StructOf Tryz.prog 28 [(0, 1), (1, 1), (2, 1), (3, 1), (4, 1), (5, 1)] [.int .i64 0, .int .i64 0, .int .i64 0, .int .i64 0, .int .i64 0, .int .i64 0] := ⟨fun _ => by kernel_rfl⟩
instance : StructOf Tryz.prog 35 [(0, 6), (6, 3), (9, 1), (10, 1), (11, 1), (12, 1), (13, 1)] [.int .i64 0, .int .i64 0, .int .i64 0, .int .i64 0, .int .i64 0, .int .i64 0, .slice none 0 0, .slice none 0 0, .slice none 0 0, .slice none 0 0, .slice none 0 0, .slice none 0 0, .slice none 0 0, .int .i64 0] := ⟨fun _ => by kernel_rfl⟩
instance : StructOf Tryz.prog 49 [(0, 1), (1, 1), (2, 1)] [.int .i64 0, .int .i64 0, .int .i64 0] := ⟨fun _ => by kernel_rfl⟩
instance : StructOf Tryz.prog 57 [(0, 1), (1, 1), (2, 1), (3, 1), (4, 1)] [.int .i64 0, .int .i64 0, .int .i64 0, .int .i64 0, .int .i64 0] := ⟨fun _ => by kernel_rfl⟩
instance : StructOf Tryz.prog 59 [(0, 1), (1, 1), (2, 1), (3, 1), (4, 1)] [.int .i64 0, .int .i64 0, .int .i64 0, .int .i64 0, .int .i64 0] := ⟨fun _ => by kernel_rfl⟩
instance : StructOf Tryz.prog 75 [(0, 6), (6, 1), (7, 1), (8, 1), (9, 1), (10, 1)] [.int .i64 0, .int .i64 0, .int .i64 0, .int .i64 0, .int .i64 0, .int .i64 0, .pointer none, .pointer none, .slice none 0 0, .slice none 0 0, .int .i64 0] := ⟨fun _ => by kernel_rfl⟩
instance : StructOf Tryz.prog 86 [(0, 1), (1, 1), (2, 1), (3, 1)] [.int .i64 0, .int .i64 0, .int .i64 0, .int .i64 0] := ⟨fun _ => by kernel_rfl⟩
instance : StructOf Tryz.prog 90 [(0, 1), (1, 1), (2, 1), (3, 1)] [.string ByteArray.empty, .int .i64 0, .nilFunc, .nilFunc] := ⟨fun _ => by kernel_rfl⟩
instance : ArrayBuild Tryz.prog 91 4 [.string ByteArray.empty, .int .i64 0, .nilFunc, .nilFunc, .string ByteArray.empty, .int .i64 0, .nilFunc, .nilFunc, .string ByteArray.empty, .int .i64 0, .nilFunc, .nilFunc, .string ByteArray.empty, .int .i64 0, .nilFunc, .nilFunc, .string ByteArray.empty, .int .i64 0, .nilFunc, .nilFunc, .string ByteArray.empty, .int .i64 0, .nilFunc, .nilFunc, .string ByteArray.empty, .int .i64 0, .nilFunc, .nilFunc, .string ByteArray.empty, .int .i64 0, .nilFunc, .nilFunc, .string ByteArray.empty, .int .i64 0, .nilFunc, .nilFunc, .string ByteArray.empty, .int .i64 0, .nilFunc, .nilFunc, .string ByteArray.empty, .int .i64 0, .nilFunc, .nilFunc, .string ByteArray.empty, .int .i64 0, .nilFunc, .nilFunc, .string ByteArray.empty, .int .i64 0, .nilFunc, .nilFunc, .string ByteArray.empty, .int .i64 0, .nilFunc, .nilFunc, .string ByteArray.empty, .int .i64 0, .nilFunc, .nilFunc, .string ByteArray.empty, .int .i64 0, .nilFunc, .nilFunc, .string ByteArray.empty, .int .i64 0, .nilFunc, .nilFunc] := ⟨fun _ => by kernel_rfl⟩
instance : StructOf Tryz.prog 111 [(0, 1), (1, 1)] [.slice none 0 0, .slice none 0 0] := ⟨fun _ => by kernel_rfl⟩
instance : StructOf Tryz.prog 120 [(0, 64), (64, 1), (65, 1)] [.map none, .int .i64 0, .int .i64 0, .int .i64 0, .map none, .int .i64 0, .int .i64 0, .int .i64 0, .map none, .int .i64 0, .int .i64 0, .int .i64 0, .map none, .int .i64 0, .int .i64 0, .int .i64 0, .map none, .int .i64 0, .int .i64 0, .int .i64 0, .map none, .int .i64 0, .int .i64 0, .int .i64 0, .map none, .int .i64 0, .int .i64 0, .int .i64 0, .map none, .int .i64 0, .int .i64 0, .int .i64 0, .map none, .int .i64 0, .int .i64 0, .int .i64 0, .map none, .int .i64 0, .int .i64 0, .int .i64 0, .map none, .int .i64 0, .int .i64 0, .int .i64 0, .map none, .int .i64 0, .int .i64 0, .int .i64 0, .map none, .int .i64 0, .int .i64 0, .int .i64 0, .map none, .int .i64 0, .int .i64 0, .int .i64 0, .map none, .int .i64 0, .int .i64 0, .int .i64 0, .map none, .int .i64 0, .int .i64 0, .int .i64 0, .int .i64 0, .map none] := ⟨fun _ => by kernel_rfl⟩
instance : ArrayBuild Tryz.prog 136 1 [.int .i64 0, .int .i64 0] := ⟨fun _ => by kernel_rfl⟩
instance : StructOf Tryz.prog 144 [(0, 1), (1, 1), (2, 1)] [.int .u8 0, .int .i64 0, .int .i64 0] := ⟨fun _ => by kernel_rfl⟩
instance : ArrayBuild Tryz.prog 145 3 [.int .u8 0, .int .i64 0, .int .i64 0, .int .u8 0, .int .i64 0, .int .i64 0, .int .u8 0, .int .i64 0, .int .i64 0, .int .u8 0, .int .i64 0, .int .i64 0] := ⟨fun _ => by kernel_rfl⟩
instance : StructOf Tryz.prog 158 [(0, 1), (1, 1), (2, 1), (3, 1)] [.int .i64 0, .int .i64 0, .bool false, .bool false] := ⟨fun _ => by kernel_rfl⟩
instance : ArrayBuild Tryz.prog 161 1 [.slice none 0 0, .slice none 0 0, .slice none 0 0, .slice none 0 0, .slice none 0 0] := ⟨fun _ => by kernel_rfl⟩
instance : MapOf Tryz.prog 112 (.int .i64 0) := MapOf.of (kt := 3) (e := 3) (by kernel_rfl) (by kernel_rfl) (by kernel_rfl)
instance : MapOf Tryz.prog 113 (.agg #[.int .i64 0, .int .i64 0, .bool false, .bool false]) := MapOf.of (kt := 3) (e := 158) (by kernel_rfl) (by kernel_rfl) (by kernel_rfl)
instance : FlatEq Tryz.prog 49 [.int .i64, .int .i64, .int .i64] := ⟨by kernel_rfl, by kernel_rfl, by kernel_rfl, by kernel_rfl⟩
instance : UnderStr Tryz.prog 9 := ⟨by kernel_rfl⟩
instance : UnderStr Tryz.prog 10 := ⟨by kernel_rfl⟩
instance : UnderStr Tryz.prog 11 := ⟨by kernel_rfl⟩
instance : IntTy Tryz.prog 3 .i64 := ⟨by kernel_rfl⟩
instance : IntTy Tryz.prog 5 .u8 := ⟨by kernel_rfl⟩
instance : IntTy Tryz.prog 36 .i64 := ⟨by kernel_rfl⟩
instance : Callable Tryz.prog 2 := Callable.of (by kernel_rfl)
instance : Callable Tryz.prog 3 := Callable.of (by kernel_rfl)
instance : Callable Tryz.prog 4 := Callable.of (by kernel_rfl)
instance : Callable Tryz.prog 5 := Callable.of (by kernel_rfl)
instance : Callable Tryz.prog 6 := Callable.of (by kernel_rfl)
instance : Callable Tryz.prog 7 := Callable.of (by kernel_rfl)
instance : Callable Tryz.prog 8 := Callable.of (by kernel_rfl)
instance : Callable Tryz.prog 9 := Callable.of (by kernel_rfl)
instance : Callable Tryz.prog 10 := Callable.of (by kernel_rfl)
instance : Callable Tryz.prog 11 := Callable.of (by kernel_rfl)
instance : Callable Tryz.prog 12 := Callable.of (by kernel_rfl)
instance : Callable Tryz.prog 13 := Callable.of (by kernel_rfl)
instance : Callable Tryz.prog 14 := Callable.of (by kernel_rfl)
instance : Callable Tryz.prog 15 := Callable.of (by kernel_rfl)
instance : Callable Tryz.prog 16 := Callable.of (by kernel_rfl)
instance : Callable Tryz.prog 17 := Callable.of (by kernel_rfl)
instance : Callable Tryz.prog 18 := Callable.of (by kernel_rfl)
instance : Callable Tryz.prog 19 := Callable.of (by kernel_rfl)
instance : Callable Tryz.prog 20 := Callable.of (by kernel_rfl)
instance : Callable Tryz.prog 21 := Callable.of (by kernel_rfl)
instance : Callable Tryz.prog 22 := Callable.of (by kernel_rfl)
instance : Callable Tryz.prog 23 := Callable.of (by kernel_rfl)
instance : Callable Tryz.prog 24 := Callable.of (by kernel_rfl)
instance : Callable Tryz.prog 25 := Callable.of (by kernel_rfl)
instance : Callable Tryz.prog 26 := Callable.of (by kernel_rfl)
instance : Callable Tryz.prog 27 := Callable.of (by kernel_rfl)
instance : Callable Tryz.prog 28 := Callable.of (by kernel_rfl)
instance : Callable Tryz.prog 29 := Callable.of (by kernel_rfl)
instance : Callable Tryz.prog 30 := Callable.of (by kernel_rfl)
instance : Callable Tryz.prog 31 := Callable.of (by kernel_rfl)
instance : Callable Tryz.prog 32 := Callable.of (by kernel_rfl)
instance : Callable Tryz.prog 33 := Callable.of (by kernel_rfl)
instance : Callable Tryz.prog 34 := Callable.of (by kernel_rfl)
instance : Callable Tryz.prog 35 := Callable.of (by kernel_rfl)
instance : Callable Tryz.prog 36 := Callable.of (by kernel_rfl)
instance : Callable Tryz.prog 37 := Callable.of (by kernel_rfl)
instance : Callable Tryz.prog 38 := Callable.of (by kernel_rfl)
instance : Callable Tryz.prog 39 := Callable.of (by kernel_rfl)
instance : Callable Tryz.prog 40 := Callable.of (by kernel_rfl)
instance : Callable Tryz.prog 41 := Callable.of (by kernel_rfl)
instance : Callable Tryz.prog 42 := Callable.of (by kernel_rfl)
instance : Callable Tryz.prog 43 := Callable.of (by kernel_rfl)
instance : Callable Tryz.prog 44 := Callable.of (by kernel_rfl)
instance : Callable Tryz.prog 45 := Callable.of (by kernel_rfl)
instance : Callable Tryz.prog 46 := Callable.of (by kernel_rfl)
instance : Callable Tryz.prog 47 := Callable.of (by kernel_rfl)
instance : Callable Tryz.prog 48 := Callable.of (by kernel_rfl)
instance : Callable Tryz.prog 49 := Callable.of (by kernel_rfl)
instance : Callable Tryz.prog 50 := Callable.of (by kernel_rfl)
instance : Callable Tryz.prog 51 := Callable.of (by kernel_rfl)
instance : Callable Tryz.prog 52 := Callable.of (by kernel_rfl)
instance : Callable Tryz.prog 53 := Callable.of (by kernel_rfl)
instance : Callable Tryz.prog 54 := Callable.of (by kernel_rfl)
instance : Callable Tryz.prog 55 := Callable.of (by kernel_rfl)
instance : Callable Tryz.prog 56 := Callable.of (by kernel_rfl)
instance : Callable Tryz.prog 57 := Callable.of (by kernel_rfl)
instance : Callable Tryz.prog 58 := Callable.of (by kernel_rfl)
instance : Callable Tryz.prog 59 := Callable.of (by kernel_rfl)
instance : Callable Tryz.prog 60 := Callable.of (by kernel_rfl)
instance : Callable Tryz.prog 61 := Callable.of (by kernel_rfl)
instance : Callable Tryz.prog 62 := Callable.of (by kernel_rfl)
instance : Callable Tryz.prog 63 := Callable.of (by kernel_rfl)
instance : Callable Tryz.prog 64 := Callable.of (by kernel_rfl)
instance : Callable Tryz.prog 65 := Callable.of (by kernel_rfl)
instance : Callable Tryz.prog 66 := Callable.of (by kernel_rfl)
instance : Callable Tryz.prog 67 := Callable.of (by kernel_rfl)
instance : Callable Tryz.prog 68 := Callable.of (by kernel_rfl)
instance : Callable Tryz.prog 69 := Callable.of (by kernel_rfl)
instance : Callable Tryz.prog 70 := Callable.of (by kernel_rfl)
instance : Callable Tryz.prog 71 := Callable.of (by kernel_rfl)
instance : Callable Tryz.prog 72 := Callable.of (by kernel_rfl)
instance : Callable Tryz.prog 73 := Callable.of (by kernel_rfl)
instance : Callable Tryz.prog 74 := Callable.of (by kernel_rfl)
instance : Callable Tryz.prog 75 := Callable.of (by kernel_rfl)
instance : Callable Tryz.prog 76 := Callable.of (by kernel_rfl)
instance : Callable Tryz.prog 77 := Callable.of (by kernel_rfl)
instance : Callable Tryz.prog 78 := Callable.of (by kernel_rfl)
instance : Callable Tryz.prog 79 := Callable.of (by kernel_rfl)
instance : Callable Tryz.prog 80 := Callable.of (by kernel_rfl)
instance : Callable Tryz.prog 81 := Callable.of (by kernel_rfl)
instance : Callable Tryz.prog 82 := Callable.of (by kernel_rfl)
instance : Callable Tryz.prog 83 := Callable.of (by kernel_rfl)
instance : Callable Tryz.prog 84 := Callable.of (by kernel_rfl)
instance : Callable Tryz.prog 85 := Callable.of (by kernel_rfl)
instance : Callable Tryz.prog 86 := Callable.of (by kernel_rfl)
instance : Callable Tryz.prog 87 := Callable.of (by kernel_rfl)
instance : Callable Tryz.prog 88 := Callable.of (by kernel_rfl)
instance : Callable Tryz.prog 89 := Callable.of (by kernel_rfl)
instance : Callable Tryz.prog 90 := Callable.of (by kernel_rfl)
instance : Callable Tryz.prog 91 := Callable.of (by kernel_rfl)
instance : Callable Tryz.prog 92 := Callable.of (by kernel_rfl)
instance : Callable Tryz.prog 93 := Callable.of (by kernel_rfl)
instance : Callable Tryz.prog 94 := Callable.of (by kernel_rfl)
instance : Callable Tryz.prog 95 := Callable.of (by kernel_rfl)
instance : Callable Tryz.prog 96 := Callable.of (by kernel_rfl)
instance : Callable Tryz.prog 97 := Callable.of (by kernel_rfl)
instance : Callable Tryz.prog 98 := Callable.of (by kernel_rfl)
instance : Callable Tryz.prog 99 := Callable.of (by kernel_rfl)
instance : Callable Tryz.prog 100 := Callable.of (by kernel_rfl)
instance : Callable Tryz.prog 101 := Callable.of (by kernel_rfl)
instance : Callable Tryz.prog 102 := Callable.of (by kernel_rfl)
instance : Callable Tryz.prog 103 := Callable.of (by kernel_rfl)
instance : Callable Tryz.prog 104 := Callable.of (by kernel_rfl)
instance : Callable Tryz.prog 105 := Callable.of (by kernel_rfl)
instance : Callable Tryz.prog 106 := Callable.of (by kernel_rfl)
instance : Callable Tryz.prog 107 := Callable.of (by kernel_rfl)
instance : Callable Tryz.prog 108 := Callable.of (by kernel_rfl)
instance : Callable Tryz.prog 109 := Callable.of (by kernel_rfl)
instance : Callable Tryz.prog 110 := Callable.of (by kernel_rfl)
instance : Callable Tryz.prog 111 := Callable.of (by kernel_rfl)
instance : Callable Tryz.prog 112 := Callable.of (by kernel_rfl)
instance : Callable Tryz.prog 113 := Callable.of (by kernel_rfl)
instance : Callable Tryz.prog 114 := Callable.of (by kernel_rfl)
instance : Callable Tryz.prog 115 := Callable.of (by kernel_rfl)
instance : Callable Tryz.prog 116 := Callable.of (by kernel_rfl)
instance : Callable Tryz.prog 117 := Callable.of (by kernel_rfl)
instance : Callable Tryz.prog 118 := Callable.of (by kernel_rfl)
instance : Callable Tryz.prog 119 := Callable.of (by kernel_rfl)
instance : Callable Tryz.prog 120 := Callable.of (by kernel_rfl)
instance : Callable Tryz.prog 121 := Callable.of (by kernel_rfl)
instance : Callable Tryz.prog 122 := Callable.of (by kernel_rfl)
instance : Callable Tryz.prog 123 := Callable.of (by kernel_rfl)
instance : Callable Tryz.prog 124 := Callable.of (by kernel_rfl)
instance : Callable Tryz.prog 125 := Callable.of (by kernel_rfl)
instance : Callable Tryz.prog 126 := Callable.of (by kernel_rfl)
instance : Callable Tryz.prog 127 := Callable.of (by kernel_rfl)
instance : Callable Tryz.prog 128 := Callable.of (by kernel_rfl)
instance : Callable Tryz.prog 129 := Callable.of (by kernel_rfl)

end Go.Proofs.YtlhnmbajbhaaoaaGreat
namespace Go.Proofs.YtlhnmbajbhaaoaaGreat
open Go Go.SL
set_option linter.unusedSimpArgs false
set_option linter.unusedVariables false
set_option maxRecDepth 10000
attribute [local irreducible] WP WPL QSeq QBlk QRet Does Cell Cells Rd Mine Ent Aside


/-- The first place of x among xs, counted from k on. -/
def idxFrom (x : Int) : List Int → Int → Int
  | [], _ => -1
  | y :: ys, k => if x = y then k else idxFrom x ys (k + 1)
theorem idxFrom_cons (x y : Int) (ys : List Int) (k : Int) : idxFrom x (y :: ys) k = if x = y then k else idxFrom x ys (k + 1) := rfl
theorem idxFrom_mem (x : Int) : ∀ (xs : List Int) (k : Int), 0 ≤ k → (x ∈ xs → 0 ≤ idxFrom x xs k) ∧ (x ∉ xs → idxFrom x xs k = -1)
  | [], k, _ => by simp [idxFrom]
  | y :: ys, k, hk => by
    rw [idxFrom_cons]
    have ih := idxFrom_mem x ys (k + 1) (by omega)
    by_cases h : x = y
    · subst h; simp [hk]
    · rw [if_neg h]; simp [h]; exact ih

section
variable {B : World} {H F : HProp}

theorem index_spec {s : Value} {xs : List Int} {x : Int} (hs : Rd B H 1 s xs.length (zs xs)) :
    Does Tryz.prog B 129 [s, .int .i64 x] H (fun r H' => H = H' ∧ r = .int .i64 (idxFrom x xs 0)) := by
  unfold Rd at hs
  obtain ⟨ao, cap, rfl, hl, hm, hc⟩ := hs
  unfold maxLen at hm
  refine fn_intro 19 Tryz.func129 rfl rfl rfl ?_
  refine walk ?_
  refine wp_loopF (α := Nat) [4, 5, 8, 9, 10, 11, 12, 13, 14, 15, 16, 17, 18] (fun k => [(8, .int .i64 k)]) (fun _ => H) (fun k => k ≤ xs.length ∧ idxFrom x xs 0 = idxFrom x (xs.drop k) k) (fun k => xs.length - k) 0 agreed (Ent.refl _) ⟨Nat.zero_le _, rfl⟩ ?_
  rintro k g ⟨hk, hi⟩
  simp only [putAll]
  by_cases hlt : k < xs.length
  · obtain ⟨b, o, rfl, hcs⟩ := Rd.addr hl hc hlt
    have hcell := hcs.cell (zs_get xs k hlt)
    rw [List.drop_eq_getElem_cons hlt, idxFrom_cons] at hi
    by_cases hx : x = xs[k]
    · rw [if_pos hx] at hi
      refine walk ?_
      exact ret1 (v := .int _ _) (.inr rfl) rfl rfl ⟨rfl, by rw [hi]⟩
    · rw [if_neg hx] at hi
      refine walk ?_
      exact ⟨k + 1, asided, agreed, Ent.refl _, ⟨hlt, hi⟩, by omega⟩
  · have : xs.length = k := by omega
    subst this
    simp [idxFrom] at hi
    refine walk ?_
    exact ret1 (v := .int _ _) (.inr rfl) rfl rfl ⟨rfl, by rw [hi]⟩

theorem contains_spec {s : Value} {xs : List Int} {x : Int} (hs : Rd B H 1 s xs.length (zs xs)) :
    Does Tryz.prog B 121 [s, .int .i64 x] H (fun r H' => H = H' ∧ r = .bool (decide (x ∈ xs))) := by
  have hm := idxFrom_mem x xs 0 (Int.le_refl _)
  refine fn_intro 9 Tryz.func121 rfl rfl rfl ?_
  refine walk ?_
  refine s_call rfl (index_spec hs) rfl ?_
  rintro _ _ ⟨rfl, rfl⟩
  by_cases hx : x ∈ xs
  · have h := hm.1 hx
    refine walk ?_
    exact ret1 (v := .bool _) (.inr rfl) rfl rfl ⟨rfl, by simp [hx]⟩
  · have h := hm.2 hx
    refine walk ?_
    exact ret1 (v := .bool _) (.inr rfl) rfl rfl ⟨rfl, by simp [hx]⟩

/-- A copy of a row of numbers. -/
theorem cloneInts_spec {s : Value} {m : Nat} {cs : List Value} (hs : Rd B H 1 s m cs) (h1 : cs.all Value.oneCell' = true) (hb : m ≤ 1000000000000) :
    Does Tryz.prog B 49 [s] H (fun r H' => Ent H' (Mine 3 1 r m cs + H)) := by
  have hs' := hs
  unfold Rd at hs
  obtain ⟨ao, cap, rfl, hl, hm, hc⟩ := hs
  refine fn_intro 8 Tryz.func49 rfl rfl rfl ?_
  cases ao with
  | none =>
    have : cs = [] := by
      rcases hc with h | ⟨b, o, h, _⟩
      · exact h
      · cases h
    subst this
    have : m = 0 := by simp at hl; exact hl.symm
    subst this
    refine walk ?_
    refine s_eqnilS rfl rfl (b := true) rfl rfl ?_
    refine walk ?_
    refine ret1 (v := .slice none 0 0) (.inr rfl) rfl rfl ?_
    rw [Mine.nil, HProp.emp_add]; exact Ent.refl _
  | some a =>
    refine walk ?_
    refine s_eqnilS rfl rfl (b := false) rfl rfl ?_
    refine walk ?_
    refine s_buildInts (cs := []) rfl rfl rfl rfl rfl ?_
    intro b
    refine walk ?_
    refine WPL.ent ((Mine.of_blk (sz := 1) (n := 0) (cap := 0) (cs := []) (spare := []) rfl rfl (Nat.le_refl _) (by simp [maxLen]) rfl).frame_right _) ?_
    refine s_append (v := .slice _ _ _) rfl rfl hs' h1 rfl ?_ rfl ?_
    · simp only [maxLen]; omega
    intro v'
    simp only [Nat.zero_add, List.nil_append]
    refine walk ?_
    exact ret1 (.inr rfl) rfl rfl (Ent.refl _)
end
end Go.Proofs.YtlhnmbajbhaaoaaGreat
namespace Go.Proofs.YtlhnmbajbhaaoaaGreat
open Go Go.SL
set_option linter.unusedSimpArgs false
set_option linter.unusedVariables false
set_option maxRecDepth 10000
attribute [local irreducible] WP WPL QSeq QBlk QRet Does Cell Cells Rd Mine Ent Aside RV

structure Tab where
  all : List (Int × Int)
  row : List Int
def goros (l : List (Int × Int)) : List Value := l.flatMap fun p => [.int .i64 p.1, .int .i64 p.2]
theorem goros_length (l : List (Int × Int)) : (goros l).length = l.length * 2 := by
  induction l with
  | nil => rfl
  | cons p l ih => simp only [goros, List.flatMap_cons, List.length_append, List.length_cons, List.length_nil] at ih ⊢; omega
theorem goros_get (l : List (Int × Int)) : ∀ (k : Nat) (h : k < l.length), (goros l)[k * 2]? = some (.int .i64 l[k].1) ∧ (goros l)[k * 2 + 1]? = some (.int .i64 l[k].2) := by
  induction l with
  | nil => intro k h; simp at h
  | cons p l ih =>
    intro k h
    cases k with
    | zero => simp [goros]
    | succ k =>
      have h2 := ih k (by simpa using h)
      have e1 : (k + 1) * 2 = k * 2 + 1 + 1 := by omega
      simp only [goros, List.flatMap_cons, List.cons_append, List.nil_append, List.getElem_cons_succ, e1, List.getElem?_cons_succ] at h2 ⊢
      exact h2
theorem goros_set (l : List (Int × Int)) : ∀ (k : Nat) (h : k < l.length) (x y : Int), (goros l).set (k * 2) (.int .i64 x) = goros (l.set k (x, l[k].2)) ∧ (goros l).set (k * 2 + 1) (.int .i64 y) = goros (l.set k (l[k].1, y)) := by
  induction l with
  | nil => intro k h; simp at h
  | cons p l ih =>
    intro k h x y
    cases k with
    | zero => simp [goros]
    | succ k =>
      have h2 := ih k (by simpa using h) x y
      have e1 : (k + 1) * 2 = k * 2 + 1 + 1 := by omega
      simp only [goros, List.flatMap_cons, List.cons_append, List.nil_append, List.getElem_cons_succ, e1, List.set_cons_succ] at h2 ⊢
      exact ⟨by rw [h2.1], by rw [h2.2]⟩
theorem goros_one (l : List (Int × Int)) : (goros l).all Value.oneCell' = true := by
  induction l with
  | nil => rfl
  | cons p l ih => simp only [goros, List.flatMap_cons, List.all_append] at ih ⊢; simp [ih, Value.oneCell']

/-- A table in memory. -/
def TabAt (p : Nat) (T : Tab) : HProp := ex fun av => ex fun fv => blk p [av, fv] 111 + (Mine 125 2 av T.all.length (goros T.all) + Mine 3 1 fv T.row.length (zs T.row.reverse))
/-- The same, laid open. -/
def TabX (p : Nat) (T : Tab) (ao : Option Addr) (cap : Nat) (fo : Option Addr) (cap2 : Nat) : HProp :=
  blk p [.slice ao T.all.length cap, .slice fo T.row.length cap2] 111 + (Mine 125 2 (.slice ao T.all.length cap) T.all.length (goros T.all) + Mine 3 1 (.slice fo T.row.length cap2) T.row.length (zs T.row.reverse))
/-- It is within bounds. -/
structure Tab.ok (T : Tab) (K : Int) : Prop where
  size : T.all.length ≤ 256
  row : ∀ g ∈ T.row, 0 ≤ g ∧ g < T.all.length
  all : ∀ p ∈ T.all, 0 ≤ p.1 ∧ p.1 ≤ 4 ∧ 0 ≤ p.2 ∧ p.2 ≤ K
  long : (T.row.length : Int) ≤ 256 + K
  k0 : 0 ≤ K

/-- What is known of a table laid open. -/
structure TabF (B : World) (p : Nat) (T : Tab) (ao : Option Addr) (cap : Nat) (fo : Option Addr) (cap2 : Nat) : Prop where
  c1 : T.all.length ≤ cap
  c2 : cap ≤ maxLen
  c3 : T.row.length ≤ cap2
  c4 : cap2 ≤ maxLen
  rd1 : Rd B (TabX p T ao cap fo cap2) 2 (.slice ao T.all.length cap) T.all.length (goros T.all)
  rd2 : Rd B (TabX p T ao cap fo cap2) 1 (.slice fo T.row.length cap2) T.row.length (zs T.row.reverse)

section
variable {ro : Option Nat} {B : World} {F : HProp} {p : Nat} {T : Tab} {f : FuncId} {args : List Value} {R : Value → HProp → Prop} {n : Nat} {ops : Array Oper} {l : List Oper} {fr : Fr} {Q : Post}

theorem tab_holds {w : World} (h : Holds B (TabAt p T + F) w) : ∃ ao cap fo cap2, TabF B p T ao cap fo cap2 ∧ Holds B (TabX p T ao cap fo cap2 + F) w := by
  unfold TabAt at h
  rw [ex_add] at h
  obtain ⟨av, h⟩ := h.ex_out
  rw [ex_add] at h
  obtain ⟨fv, h⟩ := h.ex_out
  have e1 : blk p [av, fv] 111 + (Mine 125 2 av T.all.length (goros T.all) + Mine 3 1 fv T.row.length (zs T.row.reverse)) + F = Mine 125 2 av T.all.length (goros T.all) + (blk p [av, fv] 111 + (Mine 3 1 fv T.row.length (zs T.row.reverse) + F)) := by ac_rfl
  have e2 : blk p [av, fv] 111 + (Mine 125 2 av T.all.length (goros T.all) + Mine 3 1 fv T.row.length (zs T.row.reverse)) + F = Mine 3 1 fv T.row.length (zs T.row.reverse) + (blk p [av, fv] 111 + (Mine 125 2 av T.all.length (goros T.all) + F)) := by ac_rfl
  obtain ⟨ao, cap, rfl, _, h1, h2⟩ := Mine.shape (e1 ▸ h)
  obtain ⟨fo, cap2, rfl, _, h3, h4⟩ := Mine.shape (e2 ▸ h)
  refine ⟨ao, cap, fo, cap2, ⟨h1, h2, h3, h4, ?_, ?_⟩, h⟩
  · exact (Mine.rd ⟨w, (e1 ▸ h).drop_right⟩).ent ((Ent.drop_left _ _).trans (Ent.drop_right _ _))
  · exact (Mine.rd ⟨w, (e2 ▸ h).drop_right⟩).ent ((Ent.drop_left _ _).trans (Ent.drop_left _ _))
theorem tab_close {ao : Option Addr} {cap : Nat} {fo : Option Addr} {cap2 : Nat} : Ent (TabX p T ao cap fo cap2 + F) (TabAt p T + F) := by
  refine Ent.frame_right ?_ F
  exact (Ent.ex_in (G := fun fv => blk p [.slice ao T.all.length cap, fv] 111 + (Mine 125 2 (.slice ao T.all.length cap) T.all.length (goros T.all) + Mine 3 1 fv T.row.length (zs T.row.reverse))) _).trans
    (Ent.ex_in (G := fun av => ex fun fv => blk p [av, fv] 111 + (Mine 125 2 av T.all.length (goros T.all) + Mine 3 1 fv T.row.length (zs T.row.reverse))) _)
theorem Does.tab (h : ∀ ao cap fo cap2, TabF B p T ao cap fo cap2 → Does Tryz.prog B f args (TabX p T ao cap fo cap2 + F) R) : Does Tryz.prog B f args (TabAt p T + F) R :=
  Does.under fun w hw => let ⟨ao, cap, fo, cap2, h1, hx⟩ := tab_holds hw; ⟨_, hx, h ao cap fo cap2 h1⟩
theorem WPL.tab (h : ∀ ao cap fo cap2, TabF B p T ao cap fo cap2 → WPL ro Tryz.prog B n ops l fr (TabX p T ao cap fo cap2 + F) Q) : WPL ro Tryz.prog B n ops l fr (TabAt p T + F) Q :=
  WPL.under fun w hw => let ⟨ao, cap, fo, cap2, h1, hx⟩ := tab_holds hw; ⟨_, hx, h ao cap fo cap2 h1⟩
/-- A function that leaves the table, laid open, as it was. -/
theorem Does.tabRead {φ : Value → Prop} (h : ∀ ao cap fo cap2, TabF B p T ao cap fo cap2 →
    Does Tryz.prog B f args (TabX p T ao cap fo cap2 + F) fun r H' => H' = TabX p T ao cap fo cap2 + F ∧ φ r) : Does Tryz.prog B f args (TabAt p T + F) fun r H' => Ent H' (TabAt p T + F) ∧ φ r :=
  Does.tab fun ao cap fo cap2 h1 => (h ao cap fo cap2 h1).mono fun r H' ⟨e, x⟩ => ⟨e ▸ tab_close, x⟩

/-- A function that lays something beside it. -/
theorem Does.tabNew {φ : Value → HProp → Prop} (h : ∀ ao cap fo cap2, TabF B p T ao cap fo cap2 →
    Does Tryz.prog B f args (TabX p T ao cap fo cap2 + F) fun r H' => ∃ X, Ent H' (X + (TabX p T ao cap fo cap2 + F)) ∧ φ r X) : Does Tryz.prog B f args (TabAt p T + F) fun r H' => ∃ X, Ent H' (X + (TabAt p T + F)) ∧ φ r X :=
  Does.tab fun ao cap fo cap2 h1 => (h ao cap fo cap2 h1).mono fun r H' ⟨X, e, x⟩ => ⟨X, e.trans (Ent.frame_left tab_close X), x⟩
instance hasBlkTab (p : Nat) (T : Tab) (ao : Option Addr) (cap : Nat) (fo : Option Addr) (cap2 : Nat) (F : HProp) : HasBlk (TabX p T ao cap fo cap2 + F) p [.slice ao T.all.length cap, .slice fo T.row.length cap2] 111
    ((Mine 125 2 (.slice ao T.all.length cap) T.all.length (goros T.all) + Mine 3 1 (.slice fo T.row.length cap2) T.row.length (zs T.row.reverse)) + F) := ⟨HProp.add_assoc _ _ _⟩

theorem len_x {ao : Option Addr} {cap : Nat} {fo : Option Addr} {cap2 : Nat} : Does Tryz.prog B 116 [.pointer (some ⟨p, 0, none⟩)] (TabX p T ao cap fo cap2 + F) fun r H' => H' = TabX p T ao cap fo cap2 + F ∧ r = .int .i64 T.all.length := by
  refine fn_intro 10 Tryz.func116 rfl rfl rfl ?_
  refine walk ?_
  exact ret1 (v := .int _ _) (.inr rfl) rfl rfl ⟨rfl, rfl⟩
theorem has_x {ao : Option Addr} {cap : Nat} {fo : Option Addr} {cap2 : Nat} {g : Int} : Does Tryz.prog B 101 [.pointer (some ⟨p, 0, none⟩), .int .i64 g] (TabX p T ao cap fo cap2 + F) fun r H' => H' = TabX p T ao cap fo cap2 + F ∧ r = .bool (decide (0 ≤ g ∧ g < T.all.length)) := by
  refine fn_intro 13 Tryz.func101 rfl rfl rfl ?_
  by_cases h0 : 0 ≤ g
  · refine walk ?_
    refine s_call rfl len_x rfl ?_
    rintro _ _ ⟨rfl, rfl⟩
    by_cases h1 : g < T.all.length
    · refine walk ?_
      exact ret1 (v := .bool _) (.inr rfl) rfl rfl ⟨rfl, by simp [h0, h1]⟩
    · refine walk ?_
      exact ret1 (v := .bool _) (.inr rfl) rfl rfl ⟨rfl, by simp [h1]⟩
  · refine walk ?_
    exact ret1 (v := .bool _) (.inr rfl) rfl rfl ⟨rfl, by simp [h0]⟩
theorem at_spec {ao : Option Addr} {cap : Nat} {fo : Option Addr} {cap2 : Nat} (hf : TabF B p T ao cap fo cap2) {k : Nat} (hk : k < T.all.length) :
    ∃ b o, ao = some ⟨b, o, none⟩ ∧ Cell B (TabX p T ao cap fo cap2) b (o + k * 2) (.int .i64 T.all[k].1) ∧ Cell B (TabX p T ao cap fo cap2) b (o + (k * 2 + 1)) (.int .i64 T.all[k].2) := by
  have h := hf.rd1
  unfold Rd at h
  obtain ⟨ao', cap', hv, hl, _, h⟩ := h
  cases hv
  rcases h with h | ⟨b, o, hb, hc⟩
  · rw [h] at hl; simp at hl; omega
  · obtain ⟨g1, g2⟩ := goros_get T.all k hk
    exact ⟨b, o, hb, hc.cell g1, hc.cell g2⟩
theorem status_spec {g : Int} : Does Tryz.prog B 43 [.pointer (some ⟨p, 0, none⟩), .int .i64 g] (TabAt p T + F) fun r H' => Ent H' (TabAt p T + F) ∧
    (∀ k : Nat, g = k → ∀ h : k < T.all.length, r = .tuple #[.int .i64 T.all[k].1, .bool true]) ∧ (¬ (0 ≤ g ∧ g < T.all.length) → r = .tuple #[.int .i64 0, .bool false]) := by
  refine Does.tabRead fun ao cap fo cap2 hf => ?_
  refine fn_intro 19 Tryz.func43 rfl rfl rfl ?_
  refine walk ?_
  refine s_call rfl has_x rfl ?_
  rintro _ _ ⟨rfl, rfl⟩
  by_cases hg : 0 ≤ g ∧ g < T.all.length
  · rw [decide_eq_true hg]
    obtain ⟨k, rfl⟩ := Int.eq_ofNat_of_zero_le hg.1
    have hk : k < T.all.length := by omega
    obtain ⟨b, o, rfl, hc, _⟩ := at_spec hf hk
    have hc' := hc.right F
    refine walk ?_
    refine ret2 (v := .int _ _) (x := .bool _) (.inr rfl) rfl rfl rfl ⟨rfl, fun j hj h => ?_, fun h => absurd hg h⟩
    have : k = j := by omega
    subst this; rfl
  · rw [decide_eq_false hg]
    refine walk ?_
    refine ret2 (v := .int _ _) (x := .bool _) (.inr rfl) rfl rfl rfl ⟨rfl, fun j hj h => ?_, fun _ => rfl⟩
    omega
end
end Go.Proofs.YtlhnmbajbhaaoaaGreat
namespace Go.Proofs.YtlhnmbajbhaaoaaGreat
open Go Go.SL
set_option linter.unusedSimpArgs false
set_option linter.unusedVariables false
set_option maxRecDepth 10000
set_option maxHeartbeats 1000000
attribute [local irreducible] WP WPL QSeq QBlk QRet Does Cell Cells Rd Mine Ent Aside RV
section
variable {B : World} {F : HProp} {p : Nat} {T : Tab}
/-- What a status may become, as a table of rows. -/
theorem become_spec : Does Tryz.prog B 122 [] F fun r H' => ∃ b1 b2 b3 b4 : Nat, r = .agg [.slice none 0 0, .slice (some ⟨b1, 0, none⟩) 1 1, .slice (some ⟨b2, 0, none⟩) 4 4, .slice (some ⟨b3, 0, none⟩) 1 1, .slice (some ⟨b4, 0, none⟩) 2 2].toArray ∧
    Ent H' (blk b1 (zs [2]) 3 + (blk b2 (zs [1, 3, 4, 0]) 3 + (blk b3 (zs [1]) 3 + (blk b4 (zs [2, 1]) 3 + F)))) := by
  refine fn_intro 6 Tryz.func122 rfl rfl rfl ?_
  refine walk ?_
  refine s_alloc rfl ?_
  intro b0
  refine walk ?_
  refine s_buildInts (cs := [.int _ _]) rfl rfl rfl rfl rfl ?_
  intro b1
  refine s_buildInts (cs := [.int _ _, .int _ _, .int _ _, .int _ _]) rfl rfl rfl rfl rfl ?_
  intro b2
  refine s_buildInts (cs := [.int _ _]) rfl rfl rfl rfl rfl ?_
  intro b3
  refine s_buildInts (cs := [.int _ _, .int _ _]) rfl rfl rfl rfl rfl ?_
  intro b4
  refine s_buildA (cs := [.slice none 0 0, .slice (some ⟨b1, 0, none⟩) 1 1, .slice (some ⟨b2, 0, none⟩) 4 4, .slice (some ⟨b3, 0, none⟩) 1 1, .slice (some ⟨b4, 0, none⟩) 2 2]) rfl rfl ?_
  refine s_storeA rfl (vs := [.slice none 0 0, .slice (some ⟨b1, 0, none⟩) 1 1, .slice (some ⟨b2, 0, none⟩) 4 4, .slice (some ⟨b3, 0, none⟩) 1 1, .slice (some ⟨b4, 0, none⟩) 2 2]) rfl rfl rfl (Nat.le_refl _) rfl ?_
  refine walk ?_
  refine retR1 (.inr rfl) rfl (rv_cellA rfl Cells.blk0 rfl) ⟨b1, b2, b3, b4, rfl, ?_⟩
  refine Ent.trans (Ent.drop_left _ _) (Ent.ac (by simp only [zs, List.map_cons, List.map_nil]; ac_rfl))
end
end Go.Proofs.YtlhnmbajbhaaoaaGreat
namespace Go.Proofs.YtlhnmbajbhaaoaaGreat
open Go Go.SL
set_option linter.unusedSimpArgs false
set_option linter.unusedVariables false
set_option maxRecDepth 10000
attribute [local irreducible] WP WPL QSeq QBlk QRet Does Cell Cells Rd Mine Ent Aside RV

def mayRows (a : Int) : List Int := if a = 1 then [2] else if a = 2 then [1, 3, 4, 0] else if a = 3 then [1] else if a = 4 then [2, 1] else []
/-- May a status become another one? -/
def may (was next : Int) : Bool := decide (next ∈ mayRows was)

/-- A new table. -/
def Tab.new (m : Nat) : Tab := { all := List.replicate m (0, 0), row := (List.range m).map fun (i : Nat) => (i : Int) }
def newFree (m k : Nat) : List Int := (List.range k).map fun (i : Nat) => (m : Int) - 1 - (i : Int)
theorem newFree_all (m : Nat) : newFree m m = (Tab.new m).row.reverse := by
  apply List.ext_getElem
  · simp [newFree, Tab.new]
  · intro i h1 h2
    have hi : i < m := by simpa [newFree] using h1
    simp only [newFree, Tab.new, List.getElem_map, List.getElem_range, List.getElem_reverse, List.length_map, List.length_range]
    omega
theorem newFree_succ (m k : Nat) : newFree m (k + 1) = newFree m k ++ [(m : Int) - 1 - k] := by simp [newFree, List.range_succ]
theorem zeros_goros (m : Nat) : (List.replicate m [Value.int .i64 0, Value.int .i64 0]).flatten = goros (Tab.new m).all := by
  simp only [Tab.new, goros]
  induction m with
  | zero => rfl
  | succ m ih => simp only [List.replicate_succ, List.flatten_cons, List.flatMap_cons, ih]

section
variable {B : World} {F : HProp} {p : Nat} {T : Tab}

theorem may_spec {a x : Int} (ha : 0 ≤ a ∧ a ≤ 4) : Does Tryz.prog B 113 [.agg [.int .i64 a].toArray, .int .i64 x] F fun r H' => Ent H' F ∧ r = .bool (may a x) := by
  refine fn_intro 11 Tryz.func113 rfl rfl rfl ?_
  refine walk ?_
  refine s_box rfl rfl rfl ?_
  intro b
  refine walk ?_
  (refine wp_draw [0, 5] (.look 1 (.look 2 (.look 4 (.act 0 (.look 3 (.act 5 (.look 6 .nil) .stop)) .stop)))) (by kernel_rfl) ?_; refine dwP ?_; refine dwL ?_; refine dwP ?_; skip)
  refine dw_do rfl rfl ?_ dw_stop
  refine s_call rfl become_spec rfl ?_
  rintro _ H' ⟨b1, b2, b3, b4, rfl, he⟩
  refine WPL.ent he ?_
  refine wpl_nil (qone ⟨(by (refine st_again ?_ ?_; (· exact looked)); exact st_nil), ?_⟩)
  obtain ⟨k, rfl⟩ := Int.eq_ofNat_of_zero_le ha.1
  have hk : k < 5 := by omega
  -- the row of the status
  obtain ⟨v, hv, hrd⟩ : ∃ v : Value, [Value.slice none 0 0, .slice (some ⟨b1, 0, none⟩) 1 1, .slice (some ⟨b2, 0, none⟩) 4 4, .slice (some ⟨b3, 0, none⟩) 1 1, .slice (some ⟨b4, 0, none⟩) 2 2][k]? = some v ∧
      Rd B (blk b1 (zs [2]) 3 + (blk b2 (zs [1, 3, 4, 0]) 3 + (blk b3 (zs [1]) 3 + (blk b4 (zs [2, 1]) 3 + (blk b [.int .i64 k] 123 + F))))) 1 v (mayRows k).length (zs (mayRows k)) := by
    match k, hk with
    | 0, _ => exact ⟨_, rfl, Rd.nil⟩
    | 1, _ => exact ⟨_, rfl, Rd.blk0 rfl (by simp [maxLen, mayRows])⟩
    | 2, _ => exact ⟨_, rfl, Rd.blk0 rfl (by simp [maxLen, mayRows])⟩
    | 3, _ => exact ⟨_, rfl, Rd.blk0 rfl (by simp [maxLen, mayRows])⟩
    | 4, _ => exact ⟨_, rfl, Rd.blk0 rfl (by simp [maxLen, mayRows])⟩
  apply dw_pure
  · exact rfl
  · exact rfl
  · intro G
    refine s_indexV rfl rfl rfl hk hv rfl ?_
    refine wpl_nil ?_
    exact qone_q
  refine dw_do rfl rfl ?_ dw_stop
  refine s_call rfl (contains_spec hrd) rfl ?_
  rintro _ _ ⟨rfl, rfl⟩
  refine wpl_nil (qone ⟨(by refine st_past (by kernel_rfl) ?_; exact st_nil), ?_⟩)
  (refine dwP ?_; refine dw_nil ?_; skip)
  refine walk ?_
  refine ret1 (v := .bool _) (.inr rfl) rfl rfl ⟨?_, rfl⟩
  exact (Ent.drop_left _ _).trans ((Ent.drop_left _ _).trans ((Ent.drop_left _ _).trans ((Ent.drop_left _ _).trans (Ent.drop_left _ _))))

theorem new_spec {n : Int} {m : Nat} (hm : max 0 (min n 256) = (m : Int)) : Does Tryz.prog B 32 [.int .i64 n] F fun r H' => ∃ q, r = .pointer (some ⟨q, 0, none⟩) ∧ Ent H' (TabAt q (Tab.new m) + F) := by
  have hm2 : m ≤ 256 := by omega
  refine fn_intro 38 Tryz.func32 rfl rfl rfl ?_
  refine walk ?_
  refine s_min2 rfl rfl rfl rfl ?_
  refine s_max2 rfl rfl hm rfl ?_
  refine s_makeSlice rfl rfl (Nat.le_refl _) ?_ rfl ?_
  · simp only [maxLen]; omega
  intro ba
  rw [zeros_goros]
  refine s_build (cs := [.slice (some ⟨ba, 0, none⟩) m m, .slice none 0 0]) rfl rfl ?_
  refine s_box rfl rfl rfl ?_
  intro q
  refine walk ?_
  refine wp_loopF (α := Nat × Option Addr × Nat) [4, 16, 17, 18, 19, 20, 21, 22, 23, 24, 25, 26, 27, 28, 29, 30, 31, 32, 33, 34, 35, 36] (fun x => [(16, .int .i64 x.1)])
    (fun x => blk q [.slice (some ⟨ba, 0, none⟩) m m, .slice x.2.1 x.1 x.2.2] 111 + (Mine 3 1 (.slice x.2.1 x.1 x.2.2) x.1 (zs (newFree m x.1)) + (blk ba (goros (Tab.new m).all) 125 + F))) (fun x => x.1 ≤ m) (fun x => m - x.1) (0, none, 0) agreed ?_ (Nat.zero_le _) ?_
  · show Ent _ (blk q [.slice (some ⟨ba, 0, none⟩) m m, .slice none 0 0] 111 + (Mine 3 1 (.slice none 0 0) 0 [] + (blk ba (goros (Tab.new m).all) 125 + F)))
    rw [Mine.nil, HProp.emp_add]; exact Ent.refl _
  rintro ⟨k, vo, vc⟩ g hk
  simp only at hk
  simp only [putAll]
  by_cases hlt : k < m
  · refine walk ?_
    (refine wp_draw [13, 14, 17] (.look 0 (.look 1 (.look 2 (.look 3 (.look 4 (.look 5 (.look 6 (.look 7 (.look 8 (.look 9 (.look 10 (.look 11 (.look 12 (.act 13 (.act 14 (.look 15 (.look 16 (.act 17 .nil .stop))) .stop) .stop)))))))))))))) (by kernel_rfl) ?_; refine dwP ?_; refine dwP ?_; refine dwP ?_; refine dwP ?_; refine dwL ?_; refine dwP ?_; refine dwP ?_; refine dwP ?_; refine dwL ?_; refine dwP ?_; refine dwP ?_; refine dwP ?_; refine dwP ?_; skip)
    refine dw_do rfl rfl ?_ dw_stop
    refine s_buildInts (cs := [.int _ _]) rfl rfl rfl rfl rfl ?_
    intro nb
    refine wpl_nil (qone ⟨(by refine st_past (by kernel_rfl) ?_; (refine st_again ?_ ?_; (· exact looked)); exact st_nil), ?_⟩)
    refine dw_do rfl rfl ?_ dw_stop
    refine s_append (v := .slice _ _ _) rfl rfl (Rd.blk0 (m := 1) (e := 3) rfl (by simp [maxLen])) rfl rfl ?_ rfl ?_
    · simp only [maxLen]; omega
    intro v'
    refine WPL.shape ?_
    rintro ao' cap' rfl _ _ _
    refine wpl_nil (qone ⟨(by refine st_past (by kernel_rfl) ?_; refine st_past (by kernel_rfl) ?_; exact st_nil), ?_⟩)
    (refine dwP ?_; refine dwP ?_; skip)
    refine dw_do0 rfl rfl ?_ dw_stop
    refine s_store (v := .slice _ _ _) (cs' := [_, _]) rfl rfl rfl (by simp) rfl ?_
    refine wpl_nil (qone0 ⟨(by refine st_past (by kernel_rfl) ?_; refine st_past (by kernel_rfl) ?_; exact st_nil), ?_⟩)
    (refine dw_nil ?_; skip)
    refine walk ?_
    refine ⟨(k + 1, ao', cap'), asided, agreed, ?_, hlt, by simp only; omega⟩
    rw [newFree_succ]
    simp only [zs, List.map_append, List.map_cons, List.map_nil]
    exact Ent.step (A := blk q [.slice (some ⟨ba, 0, none⟩) m m, .slice ao' (k + 1) cap'] 111) (Ent.refl _) (Ent.step (Ent.refl _) (Ent.drop (A := blk nb [.int .i64 (m - 1 - k)] 3) (Ent.refl _)))
  · have : m = k := by omega
    subst this
    refine walk ?_
    refine ret1 (v := .pointer _) (.inr rfl) rfl rfl ⟨q, rfl, ?_⟩
    have hl1 : (Tab.new m).all.length = m := by simp [Tab.new]
    have hl2 : (Tab.new m).row.length = m := by simp [Tab.new]
    refine Ent.trans ?_ (tab_close (ao := some ⟨ba, 0, none⟩) (cap := m) (fo := vo) (cap2 := vc))
    unfold TabX
    rw [hl1, hl2, newFree_all]
    refine Ent.trans ?_ (Ent.ac (HProp.add_assoc _ _ _).symm)
    refine Ent.step (A := blk q [.slice (some ⟨ba, 0, none⟩) m m, .slice vo m vc] 111) (Ent.refl _) ?_
    refine Ent.trans ?_ (Ent.ac (HProp.add_assoc _ _ _).symm)
    refine Ent.step (A := blk ba (goros (Tab.new m).all) 125) (Mine.of_blk (spare := []) (by simp) (by rw [goros_length, hl1]) (Nat.le_refl _) (by simp [maxLen]; omega) (by rw [goros_length, hl1])) (Ent.refl _)
end
end Go.Proofs.YtlhnmbajbhaaoaaGreat
namespace Go.Proofs.YtlhnmbajbhaaoaaGreat
open Go Go.SL
set_option linter.unusedSimpArgs false
set_option linter.unusedVariables false
set_option maxRecDepth 10000
attribute [local irreducible] WP WPL QSeq QBlk QRet Does Cell Cells Rd Mine Ent Aside RV

/-- One is made: who, the error, the table. -/
def Tab.make (T : Tab) : Int × Int × Tab :=
  match T.row with
  | [] => (-1, 130, T)
  | g :: rest => (g, 0, ⟨T.all.set g.toNat (1, (T.all[g.toNat]?.getD (0, 0)).2 + 1), rest⟩)
/-- A status is set: the error, the table. -/
def Tab.set (T : Tab) (g next : Int) : Int × Tab :=
  if 0 ≤ g ∧ g < T.all.length then
    if may (T.all[g.toNat]?.getD (0, 0)).1 next then (0, ⟨T.all.set g.toNat (next, (T.all[g.toNat]?.getD (0, 0)).2), if next = 0 then g :: T.row else T.row⟩) else (4, T)
  else (5, T)

theorem may_range {a x : Int} (h : may a x = true) : 0 ≤ x ∧ x ≤ 4 := by
  unfold may mayRows at h
  have h := of_decide_eq_true h
  (repeat' split at h) <;> simp at h <;> omega
theorem Tab.ok.new {m : Nat} (hm : m ≤ 256) : (Tab.new m).ok 0 := by
  refine ⟨by simp [Tab.new]; omega, ?_, ?_, by simp [Tab.new]; omega, by omega⟩
  · intro g hg
    simp only [Tab.new, List.mem_map, List.mem_range] at hg
    obtain ⟨i, hi, rfl⟩ := hg
    simp [Tab.new]; omega
  · intro q hq
    simp only [Tab.new, List.mem_replicate] at hq
    rw [hq.2]; simp
theorem mem_set_of {α : Type} {l : List α} {k : Nat} {x y : α} (h : y ∈ l.set k x) : y ∈ l ∨ y = x := List.mem_or_eq_of_mem_set h
theorem Tab.ok.make {T : Tab} {K : Int} (ok : T.ok K) : T.make.2.2.ok (K + 1) := by
  have h0 := ok.k0
  have hl := ok.long
  unfold Tab.make
  cases hr : T.row with
  | nil => show T.ok (K + 1); exact ⟨ok.size, ok.row, fun q hq => by have := ok.all q hq; omega, by omega, by omega⟩
  | cons g rest =>
    have hg := ok.row g (by simp [hr])
    obtain ⟨k, rfl⟩ := Int.eq_ofNat_of_zero_le hg.1
    have hk : k < T.all.length := by omega
    have ha := ok.all T.all[k] (List.getElem_mem hk)
    refine ⟨by simpa using ok.size, fun q hq => by simpa using ok.row q (by simp [hr, hq]), fun q hq => ?_, by simp [hr] at hl ⊢; omega, by omega⟩
    rcases mem_set_of hq with h | rfl
    · have := ok.all q h; omega
    · simp [hk]; omega
theorem Tab.ok.set {T : Tab} {K : Int} (ok : T.ok K) (g next : Int) : (T.set g next).2.ok (K + 1) := by
  have h0 := ok.k0
  have hl := ok.long
  have ok' : T.ok (K + 1) := ⟨ok.size, ok.row, fun q hq => by have := ok.all q hq; omega, by omega, by omega⟩
  unfold Tab.set
  split
  · rename_i hg
    split
    · rename_i hm
      obtain ⟨k, rfl⟩ := Int.eq_ofNat_of_zero_le hg.1
      have hk : k < T.all.length := by omega
      have ha := ok.all T.all[k] (List.getElem_mem hk)
      have := may_range hm
      refine ⟨by simpa using ok.size, fun q hq => ?_, fun q hq => ?_, ?_, by omega⟩
      · split at hq
        · rcases List.mem_cons.1 hq with rfl | hq
          · simpa using hg
          · simpa using ok.row q hq
        · simpa using ok.row q hq
      · rcases mem_set_of hq with h | rfl
        · exact ok'.all q h
        · simp [hk]; omega
      · split <;> simp <;> omega
    · exact ok'
  · exact ok'

section
variable {B : World} {F : HProp} {p : Nat} {T : Tab}

theorem make_none (hr : T.row = []) : Does Tryz.prog B 34 [.pointer (some ⟨p, 0, none⟩)] (TabAt p T + F) fun r H' => Ent H' (TabAt p T + F) ∧ r = .tuple #[.int .i64 (-1), .int .i64 130] := by
  have e0 : T.row.length = 0 := by simp [hr]
  refine Does.tabRead fun ao cap fo cap2 hf => ?_
  refine fn_intro 52 Tryz.func34 rfl rfl rfl ?_
  refine walk ?_
  exact ret2 (v := .int _ _) (x := .int _ _) (.inr rfl) rfl rfl rfl ⟨rfl, rfl⟩
theorem make_some {g : Nat} {rest : List Int} (hr : T.row = (g : Int) :: rest) (hg : g < T.all.length) (hl : T.row.length < 4611686018427387904) (hb : 0 ≤ T.all[g].2 ∧ T.all[g].2 < 4611686018427387904) : Does Tryz.prog B 34 [.pointer (some ⟨p, 0, none⟩)] (TabAt p T + F)
    fun r H' => Ent H' (TabAt p ⟨T.all.set g (1, T.all[g].2 + 1), rest⟩ + F) ∧ r = .tuple #[.int .i64 g, .int .i64 0] := by
  have e0 : T.row.length = rest.length + 1 := by simp [hr]
  have e1 : zs T.row.reverse = zs rest.reverse ++ [.int .i64 g] := by simp [hr, zs]
  refine Does.tab fun ao cap fo cap2 hf => ?_
  unfold TabX
  simp only [HProp.add_assoc]
  refine Does.split (Mine 125 2 (.slice ao T.all.length cap) T.all.length (goros T.all)) ?_
  refine Does.open (by omega) ?_
  rintro ga sp rfl hsp
  refine Does.split (Mine 3 1 (.slice fo T.row.length cap2) T.row.length (zs T.row.reverse)) ?_
  refine Does.open (by omega) ?_
  rintro gf sp2 rfl hsp2
  rw [e1] at hsp2 ⊢
  have hlen1 : (goros T.all).length = T.all.length * 2 := goros_length _
  have hlen2 : (zs rest.reverse).length = rest.length := by simp [zs]
  have g1 := (goros_get T.all g hg).1
  have g2 := (goros_get (T.all.set g (1, T.all[g].2)) g (by simpa using hg)).2
  have c1 := hf.c1
  have c2 := hf.c2
  have c3 := hf.c3
  have c4 := hf.c4
  refine fn_intro 52 Tryz.func34 rfl rfl rfl ?_
  refine walk ?_
  refine s_indexAddr (j := rest.length) rfl rfl (by omega) (by omega) (o' := rest.length) (by omega) rfl ?_
  refine s_load (v := .int .i64 g) rfl (Cell.blk ?_) rfl ?_
  · rw [List.append_assoc, List.getElem?_append_right (by omega), hlen2, Nat.sub_self]; rfl
  refine walk ?_
  refine s_sliceH (h := rest.length) rfl rfl (by omega) (by omega) rfl ?_
  refine walk ?_
  refine s_store (v := .slice _ _ _) (cs' := [_, _]) rfl rfl rfl (by simp) rfl ?_
  refine walk ?_
  refine s_store (v := .int _ _) (cs' := goros (T.all.set g (1, T.all[g].2)) ++ sp) rfl rfl rfl (by simp; omega) ?_ ?_
  · simp only [Nat.zero_add, Nat.add_zero]
    rw [List.set_append_left _ _ (by omega), (goros_set T.all g hg 1 0).1]
  refine walk ?_
  refine s_load (v := .int .i64 T.all[g].2) rfl (Cell.blk ?_) rfl ?_
  · rw [Nat.zero_add, List.getElem?_append_left (by rw [goros_length]; simp; omega), g2]; simp
  refine walk ?_
  refine s_store (v := .int _ _) (cs' := goros (T.all.set g (1, T.all[g].2 + 1)) ++ sp) rfl rfl rfl (by simp [goros_length]; omega) ?_ ?_
  · rw [Nat.zero_add, List.set_append_left _ _ (by rw [goros_length]; simp; omega), (goros_set _ g (by simpa using hg) 1 _).2]; simp
  refine walk ?_
  refine ret2 (v := .int _ _) (x := .int _ _) (.inr rfl) rfl rfl rfl ⟨?_, rfl⟩
  refine Ent.trans ?_ (tab_close (ao := some ⟨ga, 0, none⟩) (cap := cap) (fo := some ⟨gf, 0, none⟩) (cap2 := cap2))
  unfold TabX
  simp only [HProp.add_assoc, List.length_set]
  refine Ent.step (A := blk p [.slice (some ⟨ga, 0, none⟩) T.all.length cap, .slice (some ⟨gf, 0, none⟩) rest.length cap2] 111) (Ent.refl _) ?_
  refine Ent.step (A := blk ga (goros (T.all.set g (1, T.all[g].2 + 1)) ++ sp) 125) (Mine.of_blk (spare := sp) rfl (by rw [goros_length, List.length_set]) c1 c2 (by simp [goros_length] at hsp ⊢; omega)) ?_
  exact Ent.step (A := blk gf (zs rest.reverse ++ [.int .i64 g] ++ sp2) 3) (Mine.of_blk (spare := [.int .i64 g] ++ sp2) (List.append_assoc _ _ _) (by omega) (by omega) c4 hsp2) (Ent.refl _)

theorem Cells.one {H : HProp} {b o : Nat} {v : Value} (h : Cell B H b o v) : Cells B H b o [v] := by
  unfold Cells
  unfold Cell at h
  intro w hw j u hj
  match j, hj with
  | 0, hj => cases hj; exact h w hw
  | j + 1, hj => simp at hj
theorem tabX_open {ao : Option Addr} {cap : Nat} {fo : Option Addr} {cap2 : Nat} : TabX p T ao cap fo cap2 + F = Mine 125 2 (.slice ao T.all.length cap) T.all.length (goros T.all) + (blk p [.slice ao T.all.length cap, .slice fo T.row.length cap2] 111 + (Mine 3 1 (.slice fo T.row.length cap2) T.row.length (zs T.row.reverse) + F)) := by
  unfold TabX; ac_rfl

theorem set_out {g x : Int} (hg : ¬ (0 ≤ g ∧ g < T.all.length)) : Does Tryz.prog B 71 [.pointer (some ⟨p, 0, none⟩), .int .i64 g, .int .i64 x] (TabAt p T + F) fun r H' => Ent H' (TabAt p T + F) ∧ r = .int .i64 5 := by
  refine Does.tabRead fun ao cap fo cap2 hf => ?_
  refine fn_intro 48 Tryz.func71 rfl rfl rfl ?_
  refine walk ?_
  refine s_call rfl has_x rfl ?_
  rintro _ _ ⟨rfl, rfl⟩
  rw [decide_eq_false hg]
  refine walk ?_
  exact ret1 (v := .int _ _) (.inr rfl) rfl rfl ⟨rfl, rfl⟩
theorem set_in {k : Nat} {x : Int} (hg : k < T.all.length) (hl : T.row.length < 4611686018427387904) (hs : 0 ≤ T.all[k].1 ∧ T.all[k].1 ≤ 4) (hn : T.row.length < 1000000) :
    Does Tryz.prog B 71 [.pointer (some ⟨p, 0, none⟩), .int .i64 k, .int .i64 x] (TabAt p T + F) fun r H' => Ent H' (TabAt p (T.set k x).2 + F) ∧ r = .int .i64 (T.set k x).1 := by
  have hset : T.set k x = if may T.all[k].1 x then (0, ⟨T.all.set k (x, T.all[k].2), if x = 0 then (k : Int) :: T.row else T.row⟩) else (4, T) := by
    unfold Tab.set
    rw [if_pos (by omega)]
    simp [hg]
  refine Does.tab fun ao cap fo cap2 hf => ?_
  have c1 := hf.c1
  have c2 := hf.c2
  have c3 := hf.c3
  have c4 := hf.c4
  have hlen1 : (goros T.all).length = T.all.length * 2 := goros_length _
  have g1 := (goros_get T.all k hg).1
  refine fn_intro 48 Tryz.func71 rfl rfl rfl ?_
  refine walk ?_
  refine s_call rfl has_x rfl ?_
  rintro _ _ ⟨rfl, rfl⟩
  rw [decide_eq_true (show 0 ≤ (k : Int) ∧ (k : Int) < T.all.length by omega)]
  refine WPL.ent (Ent.ac tabX_open) ?_
  refine WPL.open (by omega) ?_
  rintro ga sp rfl hsp
  refine walk ?_
  refine s_loadA (vs := [.int .i64 T.all[k].1]) rfl (Cells.one (Cell.blk ?_)) rfl rfl ?_
  · rw [Nat.zero_add, Nat.add_zero, List.getElem?_append_left (by omega), g1]
  refine walk ?_
  refine s_call rfl (may_spec hs) rfl ?_
  rintro _ H' ⟨he, rfl⟩
  refine WPL.ent he ?_
  cases hm : may T.all[k].1 x with
  | false =>
    rw [hm] at hset
    refine walk ?_
    refine ret1 (v := .int _ _) (.inr rfl) rfl rfl ⟨?_, by rw [hset]; rfl⟩
    rw [hset]
    refine Ent.trans ?_ (tab_close (ao := some ⟨ga, 0, none⟩) (cap := cap) (fo := fo) (cap2 := cap2))
    refine Ent.trans ?_ (Ent.ac tabX_open.symm)
    exact Ent.step (A := blk ga (goros T.all ++ sp) 125) (Mine.of_blk (spare := sp) rfl (by rw [goros_length]) c1 c2 hsp) (Ent.refl _)
  | true =>
    rw [hm, if_pos rfl] at hset
    refine walk ?_
    refine s_store (v := .int _ _) (cs' := goros (T.all.set k (x, T.all[k].2)) ++ sp) rfl rfl rfl (by simp; omega) ?_ ?_
    · simp only [Nat.zero_add, Nat.add_zero]
      rw [List.set_append_left _ _ (by omega), (goros_set T.all k hg x 0).1]
    by_cases hx : x = 0
    · subst hx
      refine walk ?_
      refine s_buildInts (cs := [.int _ _]) rfl rfl rfl rfl rfl ?_
      intro nb
      refine s_append (v := .slice _ _ _) rfl rfl (Rd.blk0 (m := 1) (e := 3) rfl (by simp [maxLen])) rfl rfl ?_ rfl ?_
      · simp only [maxLen]; omega
      intro v'
      refine WPL.shape ?_
      rintro ao' cap' rfl _ _ _
      refine walk ?_
      refine s_store (v := .slice _ _ _) (cs' := [_, _]) rfl rfl rfl (by simp) rfl ?_
      refine walk ?_
      refine ret1 (v := .int _ _) (.inr rfl) rfl rfl ⟨?_, by rw [hset]⟩
      rw [hset]
      refine Ent.trans ?_ (tab_close (ao := some ⟨ga, 0, none⟩) (cap := cap) (fo := ao') (cap2 := cap'))
      refine Ent.trans ?_ (Ent.ac tabX_open.symm)
      simp only [List.length_set, if_pos, List.length_cons, List.reverse_cons]
      refine Ent.step (A := blk ga (goros (T.all.set k (0, T.all[k].2)) ++ sp) 125) (Mine.of_blk (spare := sp) rfl (by rw [goros_length, List.length_set]) c1 c2 (by simp [goros_length] at hsp ⊢; omega)) ?_
      refine Ent.step (A := blk p [.slice (some ⟨ga, 0, none⟩) T.all.length cap, .slice ao' (T.row.length + 1) cap'] 111) (Ent.refl _) ?_
      simp only [zs, List.map_append, List.map_cons, List.map_nil]
      exact Ent.step (Ent.refl _) (Ent.drop (A := blk nb [.int .i64 k] 3) (Ent.refl _))
    · refine walk ?_
      refine ret1 (v := .int _ _) (.inr rfl) rfl rfl ⟨?_, by rw [hset]⟩
      rw [hset]
      refine Ent.trans ?_ (tab_close (ao := some ⟨ga, 0, none⟩) (cap := cap) (fo := fo) (cap2 := cap2))
      refine Ent.trans ?_ (Ent.ac tabX_open.symm)
      simp only [List.length_set, if_neg hx]
      exact Ent.step (A := blk ga (goros (T.all.set k (x, T.all[k].2)) ++ sp) 125) (Mine.of_blk (spare := sp) rfl (by rw [goros_length, List.length_set]) c1 c2 (by simp [goros_length] at hsp ⊢; omega)) (Ent.refl _)
end
end Go.Proofs.YtlhnmbajbhaaoaaGreat
namespace Go.Proofs.YtlhnmbajbhaaoaaGreat
open Go Go.SL
set_option linter.unusedSimpArgs false
set_option linter.unusedVariables false
set_option maxRecDepth 10000
attribute [local irreducible] WP WPL QSeq QBlk QRet Does Cell Cells Rd Mine Ent Aside RV

section
variable {B : World} {F H : HProp} {p : Nat} {T : Tab}

/-- A copy of a row of goroutines. -/
theorem cloneGoros_spec {s : Value} {m : Nat} {cs : List Value} (hs : Rd B H 2 s m cs) (h1 : cs.all Value.oneCell' = true) (hb : m ≤ 1000000000000) :
    Does Tryz.prog B 104 [s] H (fun r H' => Ent H' (Mine 125 2 r m cs + H)) := by
  have hs' := hs
  unfold Rd at hs
  obtain ⟨ao, cap, rfl, hl, hm, hc⟩ := hs
  refine fn_intro 8 Tryz.func104 rfl rfl rfl ?_
  cases ao with
  | none =>
    have : cs = [] := by
      rcases hc with h | ⟨b, o, h, _⟩
      · exact h
      · cases h
    subst this
    have : m = 0 := by simp at hl; omega
    subst this
    refine walk ?_
    refine s_eqnilS rfl rfl (b := true) rfl rfl ?_
    refine walk ?_
    refine ret1 (v := .slice none 0 0) (.inr rfl) rfl rfl ?_
    rw [Mine.nil, HProp.emp_add]; exact Ent.refl _
  | some a =>
    refine walk ?_
    refine s_eqnilS rfl rfl (b := false) rfl rfl ?_
    refine walk ?_
    refine s_buildSlice (cs := []) rfl ?_ rfl ?_
    · simp [Instr.fill]
    intro b
    refine walk ?_
    refine WPL.ent ((Mine.of_blk (sz := 2) (n := 0) (cap := 0) (cs := []) (spare := []) rfl rfl (Nat.le_refl _) (by simp [maxLen]) rfl).frame_right _) ?_
    refine s_append (v := .slice _ _ _) rfl rfl hs' h1 rfl ?_ rfl ?_
    · simp only [maxLen]; omega
    intro v'
    simp only [Nat.zero_add, List.nil_append]
    refine walk ?_
    exact ret1 (.inr rfl) rfl rfl (Ent.refl _)

/-- Behind k swaps. -/
structure Swapped (xs : List Int) (k : Nat) (l : List Int) : Prop where
  len : l.length = xs.length
  at_ : ∀ t, t < xs.length → l.getD t 0 = if t < k ∨ xs.length ≤ t + k then xs.getD (xs.length - 1 - t) 0 else xs.getD t 0
theorem Swapped.next {xs : List Int} {k : Nat} {l : List Int} (h : Swapped xs k l) (hk : k < xs.length - 1 - k) : Swapped xs (k + 1) ((l.set k (l.getD (xs.length - 1 - k) 0)).set (xs.length - 1 - k) (l.getD k 0)) := by
  have hl := h.len
  refine ⟨by simp [hl], fun t ht => ?_⟩
  have e1 := h.at_ k (by omega)
  have e2 := h.at_ (xs.length - 1 - k) (by omega)
  have e3 := h.at_ t ht
  rw [if_neg (by omega)] at e1 e2
  simp only [List.getD_eq_getElem?_getD, List.getElem?_set, List.length_set, hl] at *
  by_cases h1 : t = xs.length - 1 - k
  · subst h1
    rw [if_pos rfl, if_pos (by omega), if_pos (by omega)]
    simp only [Option.getD_some]
    rw [e1, show xs.length - 1 - (xs.length - 1 - k) = k by omega]
  · rw [if_neg (by omega)]
    by_cases h2 : t = k
    · subst h2
      rw [if_pos rfl, if_pos (by omega), if_pos (by omega)]
      simp only [Option.getD_some]
      rw [e2]
    · rw [if_neg (by omega), e3]
      by_cases h3 : t < k ∨ xs.length ≤ t + k
      · rw [if_pos h3, if_pos (by omega)]
      · rw [if_neg h3, if_neg (by omega)]
theorem Swapped.done {xs : List Int} {k : Nat} {l : List Int} (h : Swapped xs k l) (hk : ¬ k < xs.length - 1 - k) : l = xs.reverse := by
  have hl := h.len
  apply List.ext_getElem
  · simp [hl]
  · intro t h1 h2
    have ht : t < xs.length := by omega
    have e := h.at_ t ht
    simp only [List.getD_eq_getElem?_getD, List.getElem?_eq_getElem h1, Option.getD_some] at e
    rw [e, List.getElem_reverse]
    rw [List.getElem?_eq_getElem (show xs.length - 1 - t < xs.length by omega), List.getElem?_eq_getElem ht]
    simp only [Option.getD_some]
    split
    · rfl
    · have : t = xs.length - 1 - t := by omega
      congr 1
theorem reverse_spec {ao : Option Addr} {cap : Nat} {xs : List Int} (hx : xs.length ≤ 1000000000000) : Does Tryz.prog B 112 [.slice ao xs.length cap] (Mine 3 1 (.slice ao xs.length cap) xs.length (zs xs) + F) fun r H' => Ent H' (Mine 3 1 (.slice ao xs.length cap) xs.length (zs xs.reverse) + F) := by
  by_cases h0 : xs.length = 0
  · have : xs = [] := by simpa using h0
    subst this
    refine fn_intro 28 Tryz.func112 rfl rfl rfl ?_
    refine walk ?_
    refine wp_loopF (α := Unit) [2, 3, 7, 8, 9, 10, 11, 12, 13, 14, 15, 16, 17, 18, 19, 20, 21, 22, 23, 24, 25, 26, 27] (fun x => [(2, .int .i64 0), (3, .int .i64 (-1))]) (fun x => Mine 3 1 (.slice ao 0 cap) 0 (zs []) + F) (fun x => True) (fun x => 0) () agreed (Ent.refl _) trivial ?_
    rintro _ g _
    simp only [putAll]
    refine walk ?_
    exact ret0 (.inl rfl) rfl (Ent.refl _)
  · refine Does.shape fun _ _ hv _ hc1 hc2 => ?_
    cases hv
    refine Does.open (by omega) ?_
    rintro b sp rfl hsp
    have hlz := zs_length xs
    refine fn_intro 28 Tryz.func112 rfl rfl rfl ?_
    refine walk ?_
    refine wp_loopF (α := Nat × List Int) [2, 3, 7, 8, 9, 10, 11, 12, 13, 14, 15, 16, 17, 18, 19, 20, 21, 22, 23, 24, 25, 26, 27] (fun x => [(2, .int .i64 x.1), (3, .int .i64 ((xs.length - 1 - x.1 : Nat) : Int))]) (fun x => blk b (zs x.2 ++ sp) 3 + F) (fun x => x.1 ≤ xs.length - x.1 ∧ Swapped xs x.1 x.2) (fun x => xs.length - x.1) (0, xs) agreed (Ent.refl _) ⟨by omega, rfl, fun t ht => by rw [if_neg (by omega)]⟩ ?_
    rintro ⟨k, l⟩ g ⟨hk, hsw⟩
    simp only at hk hsw
    simp only [putAll]
    have hl := hsw.len
    by_cases hlt : k < xs.length - 1 - k
    · have hc1 : Cell B (blk b (zs l ++ sp) 3 + F) b k (.int .i64 (l.getD k 0)) := Cell.blk (by
        rw [List.getElem?_append_left (by rw [zs_length]; omega), zs_get l k (by omega)]; simp [List.getD_eq_getElem?_getD, show k < l.length by omega])
      have hc2 : Cell B (blk b (zs l ++ sp) 3 + F) b (xs.length - 1 - k) (.int .i64 (l.getD (xs.length - 1 - k) 0)) := Cell.blk (by
        rw [List.getElem?_append_left (by rw [zs_length]; omega), zs_get l (xs.length - 1 - k) (by omega)]; simp [List.getD_eq_getElem?_getD, show xs.length - 1 - k < l.length by omega])
      refine walk ?_
      (refine wp_draw [13, 15] (.look 0 (.look 1 (.look 2 (.look 3 (.look 4 (.look 5 (.look 6 (.look 7 (.look 8 (.look 9 (.look 10 (.look 11 (.look 12 (.act 13 (.look 14 (.act 15 .nil .stop)) .stop)))))))))))))) (by kernel_rfl) ?_; refine dwP ?_; refine dwP ?_; refine dwP ?_; refine dwP ?_; refine dwP ?_; refine dwP ?_; refine dwP ?_; refine dwL ?_; refine dwP ?_; refine dwP ?_; refine dwP ?_; refine dwL ?_; refine dwP ?_; skip)
      refine dw_do0 rfl rfl ?_ dw_stop
      refine s_store (v := .int _ _) (cs' := zs (l.set k (l.getD (xs.length - 1 - k) 0)) ++ sp) rfl rfl rfl (by simp [zs_length]; omega) ?_ ?_
      · rw [List.set_append_left _ _ (by rw [zs_length]; omega)]; simp [zs, List.map_set]
      refine wpl_nil (qone0 ⟨(by refine st_past (by kernel_rfl) ?_; refine st_past (by kernel_rfl) ?_; exact st_nil), ?_⟩)
      (refine dwP ?_; skip)
      refine dw_do0 rfl rfl ?_ dw_stop
      refine s_store (v := .int _ _) (cs' := zs ((l.set k (l.getD (xs.length - 1 - k) 0)).set (xs.length - 1 - k) (l.getD k 0)) ++ sp) rfl rfl rfl (by simp [zs_length]; omega) ?_ ?_
      · rw [List.set_append_left _ _ (by rw [zs_length]; simp; omega)]; simp [zs, List.map_set]
      refine wpl_nil (qone0 ⟨(by refine st_past (by kernel_rfl) ?_; refine st_past (by kernel_rfl) ?_; exact st_nil), ?_⟩)
      (refine dw_nil ?_; skip)
      refine walk ?_
      exact ⟨(k + 1, _), asided, agreed, Ent.refl _, ⟨by simp only; omega, hsw.next hlt⟩, by simp only; omega⟩
    · refine walk ?_
      have := hsw.done hlt
      subst this
      refine ret0 (.inl rfl) rfl ?_
      exact (Mine.of_blk (spare := sp) rfl (by simp [zs_length]) hc1 hc2 (by simpa [zs_length] using hsp)).frame_right F

theorem row_spec (hl : T.row.length ≤ 1000000) : Does Tryz.prog B 66 [.pointer (some ⟨p, 0, none⟩)] (TabAt p T + F) fun r H' => ∃ X, Ent H' (X + (TabAt p T + F)) ∧ X = Mine 3 1 r T.row.length (zs T.row) := by
  refine Does.tabNew fun ao cap fo cap2 hf => ?_
  have hrd := hf.rd2
  refine fn_intro 14 Tryz.func66 rfl rfl rfl ?_
  refine walk ?_
  refine s_call rfl (cloneInts_spec (H := TabX p T ao cap fo cap2 + F) (hrd.ent (Ent.drop_right _ _)) (zs_one _) (by omega)) rfl ?_
  rintro v H' he
  refine WPL.ent he (WPL.shape ?_)
  rintro ao' cap' rfl _ _ _
  refine walk ?_
  have hrl : T.row.reverse.length = T.row.length := by simp
  have hrev := reverse_spec (B := B) (F := TabX p T ao cap fo cap2 + F) (ao := ao') (cap := cap') (xs := T.row.reverse) (by omega)
  rw [hrl, List.reverse_reverse] at hrev
  refine s_call rfl hrev rfl ?_
  rintro _ H' he
  refine WPL.ent he ?_
  refine walk ?_
  exact ret1 (v := .slice _ _ _) (.inr rfl) rfl rfl ⟨_, Ent.refl _, rfl⟩
theorem copy_spec (h1 : T.all.length ≤ 256) (hl : T.row.length ≤ 1000000) : Does Tryz.prog B 46 [.pointer (some ⟨p, 0, none⟩)] (TabAt p T + F) fun r H' => ∃ X, Ent H' (X + (TabAt p T + F)) ∧ ∃ q, r = .pointer (some ⟨q, 0, none⟩) ∧ X = TabAt q T := by
  refine Does.tabNew fun ao cap fo cap2 hf => ?_
  have hrd1 := hf.rd1
  have hrd2 := hf.rd2
  refine fn_intro 17 Tryz.func46 rfl rfl rfl ?_
  refine walk ?_
  (refine wp_draw [4, 9, 11] (.look 0 (.look 1 (.look 2 (.look 3 (.look 5 (.look 6 (.look 7 (.look 8 (.act 4 (.act 9 (.look 10 (.act 11 (.look 12 .nil) .stop)) .stop) .stop))))))))) (by kernel_rfl) ?_; refine dwP ?_; refine dwP ?_; refine dwP ?_; refine dwL ?_; refine dwP ?_; refine dwP ?_; refine dwP ?_; refine dwL ?_; skip)
  refine dw_do rfl rfl ?_ dw_stop
  refine s_call rfl (cloneGoros_spec (H := TabX p T ao cap fo cap2 + F) (hrd1.ent (Ent.drop_right _ _)) (goros_one _) (by omega)) rfl ?_
  rintro v H' he
  refine WPL.ent he (WPL.shape ?_)
  rintro ao' cap' rfl _ _ _
  refine wpl_nil (qone ⟨(by (refine st_again ?_ ?_; (· exact looked)); refine st_past (by kernel_rfl) ?_; exact st_nil), ?_⟩)
  (skip)
  refine dw_do rfl rfl ?_ dw_stop
  refine s_call rfl (cloneInts_spec (H := Mine 125 2 (.slice ao' T.all.length cap') T.all.length (goros T.all) + (TabX p T ao cap fo cap2 + F)) (hrd2.ent ((Ent.drop_left _ _).trans (Ent.drop_right _ _))) (zs_one _) (by omega)) rfl ?_
  rintro v H' he
  refine WPL.ent he (WPL.shape ?_)
  rintro fo' cap2' rfl _ _ _
  refine wpl_nil (qone ⟨(by refine st_past (by kernel_rfl) ?_; refine st_past (by kernel_rfl) ?_; exact st_nil), ?_⟩)
  apply dw_pure
  · exact rfl
  · exact rfl
  · intro G
    refine s_build (cs := [.slice ao' T.all.length cap', .slice fo' T.row.length cap2']) rfl rfl ?_
    refine wpl_nil ?_
    exact qone_q
  refine dw_do rfl rfl ?_ dw_stop
  refine s_box rfl rfl rfl ?_
  intro q
  refine wpl_nil (qone ⟨(by refine st_past (by kernel_rfl) ?_; refine st_past (by kernel_rfl) ?_; exact st_nil), ?_⟩)
  (refine dwP ?_; refine dw_nil ?_; skip)
  refine walk ?_
  refine ret1 (v := .pointer _) (.inr rfl) rfl rfl ⟨_, ?_, q, rfl, rfl⟩
  refine Ent.trans ?_ (tab_close (ao := ao') (cap := cap') (fo := fo') (cap2 := cap2'))
  refine Ent.trans ?_ (Ent.ac tabX_open.symm)
  exact Ent.ac (by ac_rfl)

end
end Go.Proofs.YtlhnmbajbhaaoaaGreat
namespace Go.Proofs.YtlhnmbajbhaaoaaGreat
open Go Go.SL
set_option linter.unusedSimpArgs false
set_option linter.unusedVariables false
set_option maxRecDepth 10000
attribute [local irreducible] WP WPL QSeq QBlk QRet Does Cell Cells Rd Mine Ent Aside RV TabX TabAt

abbrev ptr (p : Nat) : Value := .pointer (some ⟨p, 0, none⟩)
section
variable {B : World} {H F G : HProp} {p q : Nat} {T U : Tab} {K : Int}
theorem make_spec {K : Int} (ok : T.ok K) (hK : K ≤ 100000) : Does Tryz.prog B 34 [.pointer (some ⟨p, 0, none⟩)] (TabAt p T + F) fun r H' => Ent H' (TabAt p T.make.2.2 + F) ∧ r = .tuple #[.int .i64 T.make.1, .int .i64 T.make.2.1] := by
  have hl := ok.long
  unfold Tab.make
  cases hr : T.row with
  | nil => exact make_none hr
  | cons g rest =>
    have hg := ok.row g (by simp [hr])
    obtain ⟨k, rfl⟩ := Int.eq_ofNat_of_zero_le hg.1
    have hk : k < T.all.length := by omega
    have ha := ok.all T.all[k] (List.getElem_mem hk)
    have h := make_some (B := B) (F := F) (p := p) hr hk (by omega) (by omega)
    simpa [hk] using h
theorem set_spec {K g x : Int} (ok : T.ok K) (hK : K ≤ 100000) : Does Tryz.prog B 71 [.pointer (some ⟨p, 0, none⟩), .int .i64 g, .int .i64 x] (TabAt p T + F) fun r H' => Ent H' (TabAt p (T.set g x).2 + F) ∧ r = .int .i64 (T.set g x).1 := by
  have hl := ok.long
  by_cases hg : 0 ≤ g ∧ g < T.all.length
  · obtain ⟨k, rfl⟩ := Int.eq_ofNat_of_zero_le hg.1
    have hk : k < T.all.length := by omega
    have ha := ok.all T.all[k] (List.getElem_mem hk)
    exact set_in hk (by omega) (by omega) (by omega)
  · have e : T.set g x = (5, T) := by unfold Tab.set; rw [if_neg hg]
    rw [e]
    exact set_out hg

theorem tMake [HasAt TabAt H p T F] (ok : T.ok K) (hK : K ≤ 100000) : Does Tryz.prog B 34 [ptr p] H fun r H' => H' = TabAt p T.make.2.2 + F ∧ r = .tuple #[.int .i64 T.make.1, .int .i64 T.make.2.1] := Does.at (make_spec ok hK).same
theorem tSet [HasAt TabAt H p T F] {g x : Int} (ok : T.ok K) (hK : K ≤ 100000) : Does Tryz.prog B 71 [ptr p, .int .i64 g, .int .i64 x] H fun r H' => H' = TabAt p (T.set g x).2 + F ∧ r = .int .i64 (T.set g x).1 := Does.at (set_spec ok hK).same
theorem tCopy [h : HasAt TabAt H p T F] (ok : T.ok K) (hK : K ≤ 100000) : Does Tryz.prog B 46 [ptr p] H fun r H' => ∃ q, r = ptr q ∧ H' = TabAt q T + H := by
  have hl := ok.long
  exact (Does.at (copy_spec ok.size (by omega))).weak fun _ _ ⟨X, e, q, hr, hX⟩ => ⟨_, e, q, hr, by rw [hX, h.eq]⟩
theorem tRow [h : HasAt TabAt H p T F] (ok : T.ok K) (hK : K ≤ 100000) : Does Tryz.prog B 66 [ptr p] H fun r H' => H' = Mine 3 1 r T.row.length (zs T.row) + H := by
  have hl := ok.long
  exact (Does.at (row_spec (by omega))).weak fun _ _ ⟨X, e, hX⟩ => ⟨_, e, by rw [hX, h.eq]⟩
theorem tStatus [h : HasAt TabAt H p T F] {g : Int} : Does Tryz.prog B 43 [ptr p, .int .i64 g] H fun r H' => H' = H ∧
    r = if 0 ≤ g ∧ g < T.all.length then .tuple #[.int .i64 (T.all[g.toNat]?.getD (0, 0)).1, .bool true] else .tuple #[.int .i64 0, .bool false] := by
  refine (Does.at status_spec).weak fun _ _ ⟨e, h1, h2⟩ => ⟨H, e.trans (Ent.of_eq h.eq.symm), rfl, ?_⟩
  split
  · rename_i hg
    obtain ⟨k, rfl⟩ := Int.eq_ofNat_of_zero_le hg.1
    have hk : k < T.all.length := by omega
    simpa [hk] using h1 k rfl hk
  · rename_i hg
    exact h2 hg
theorem tNew {n : Int} {m : Nat} (hm : max 0 (min n 256) = (m : Int)) : Does Tryz.prog B 32 [.int .i64 n] H fun r H' => ∃ q, r = ptr q ∧ H' = TabAt q (Tab.new m) + H :=
  (new_spec hm).weak fun _ _ ⟨q, hr, e⟩ => ⟨_, e, q, hr, rfl⟩
end
end Go.Proofs.YtlhnmbajbhaaoaaGreat
namespace Go.Proofs.YtlhnmbajbhaaoaaGreat
open Go Go.SL
set_option linter.unusedSimpArgs false
set_option linter.unusedVariables false
set_option maxRecDepth 10000
set_option maxHeartbeats 1000000
attribute [local irreducible] WP WPL QSeq QBlk QRet Does Cell Cells Rd Mine Ent Aside RV Yield
section
variable {B : World} {F H G : HProp}
/-- What a function to loop over gives, in whatever memory beside its own. -/
def Gives (B : World) (gf : FuncId) (cap : List Value) (St : HProp) (xs : List Int) : Prop :=
  ∀ (l : Nat) (J Jx : List Int → HProp), (∀ pre y post, xs = pre ++ y :: post → Yield Tryz.prog B l [.int .i64 y] (St + J pre) fun r H' => ∃ bo : Bool, r = .bool bo ∧ Ent H' (St + (if bo then J (pre ++ [y]) else Jx (pre ++ [y])))) →
    Does Tryz.prog B gf ([.func (.yield l) #[] #[]] ++ cap) (St + J []) fun _ H' => H' = St + J xs ∨ ∃ pre y post, xs = pre ++ y :: post ∧ H' = St + Jx (pre ++ [y])
theorem appendSeq_spec {gf : FuncId} {cap : List Value} [Callable Tryz.prog gf] {St : HProp} {xs : List Int} (hx : xs.length ≤ 1000000) (hg : Gives B gf cap St xs) :
    Does Tryz.prog B 126 [.slice none 0 0, .func (.func gf) #[] cap.toArray] (St + F) fun r H' => H' = Mine 3 1 r xs.length (zs xs) + (St + F) := by
  refine fn_intro 13 Tryz.func126 rfl rfl rfl ?_
  refine walk ?_
  refine s_box (cs := [.slice none 0 0]) rfl rfl rfl ?_
  intro b2
  refine walk ?_
  refine wp_rangeL (first := []) (cap := cap) rfl rfl ?_
  intro l D LR round
  have key := hg l (fun pre => ex fun v => blk b2 [v] 29 + (Mine 3 1 v pre.length (zs pre) + (LR .ready none + (obj D (.deferred (some [])) + F)))) (fun _ => fact False emp) ?_
  · refine Does.ent ?_ (key.mono ?_)
    · refine Ent.exr (.slice none 0 0) ?_
      show Ent _ (St + (blk b2 [.slice none 0 0] 29 + (Mine 3 1 (.slice none 0 0) 0 [] + (LR .ready none + (obj D (.deferred (some [])) + F)))))
      rw [Mine.nil]
      exact Ent.auto
    · intro _ H' hh
      refine .inl ⟨(ex fun v => blk b2 [v] 29 + Mine 3 1 v xs.length (zs xs)) + (obj D (.deferred (some [])) + (St + F)), ?_, ?_⟩
      · rcases hh with rfl | ⟨pre, y, post, _, rfl⟩
        · refine Ent.exl' fun v => ?_
          refine Ent.trans (Ent.ac (show _ = (blk b2 [v] 29 + Mine 3 1 v xs.length (zs xs)) + (LR .ready none + (obj D (.deferred (some [])) + (St + F))) by ac_rfl)) ?_
          exact ((Ent.ex_in (G := fun v => blk b2 [v] 29 + Mine 3 1 v xs.length (zs xs)) v).frame_right _).trans (Ent.ac (by ac_rfl))
        · exact Ent.absurd
      · refine walk ?_
        refine WPL.ex fun v => ?_
        refine s_load (v := v) rfl (Cell.blk rfl) rfl ?_
        refine walk ?_
        exact retM1 (G := Mine 3 1 v xs.length (zs xs) + (St + F)) (.inr rfl) rfl rfl rfl Ent.auto rfl
  · intro pre y post hxs
    have hpl : pre.length ≤ 1000000 := by rw [hxs] at hx; simp at hx; omega
    refine Yield.exr fun v => ?_
    refine Yield.ent (Ent.ac (show _ = LR .ready none + (blk b2 [v] 29 + (Mine 3 1 v pre.length (zs pre) + (obj D (.deferred (some [])) + (St + F)))) by ac_rfl)) ?_
    refine round _ _ _ ?_
    refine walk ?_
    refine ⟨_, Ent.refl _, ?_⟩
    refine walk ?_
    refine s_load (v := v) rfl (Cell.blk rfl) rfl ?_
    refine walk ?_
    refine s_buildInts (cs := [.int .i64 y]) rfl rfl rfl rfl rfl ?_
    intro bb
    refine s_append (v := v) rfl rfl (Rd.blk0 (m := 1) (e := 3) rfl (by simp [maxLen])) rfl rfl ?_ rfl ?_
    · simp only [maxLen]; omega
    intro v'
    refine WPL.shape ?_
    rintro ao cap rfl _ _ _
    refine s_store (v := .slice _ _ _) (cs' := [.slice ao (pre.length + 1) cap]) rfl rfl rfl (by simp) rfl ?_
    refine walk ?_
    refine ⟨blk b2 [.slice ao (pre.length + 1) cap] 29 + (Mine 3 1 (.slice ao (pre.length + 1) cap) (pre.length + 1) (zs pre ++ [.int .i64 y]) + (obj D (.deferred (some [])) + (St + F))), Ent.auto, true, rfl, ?_⟩
    rw [if_pos rfl]
    refine Ent.exr (.slice ao (pre.length + 1) cap) ?_
    simp only [zs_push, len_push]
    exact Ent.auto
theorem collect_spec {gf : FuncId} {cap : List Value} [Callable Tryz.prog gf] {St : HProp} {xs : List Int} (hx : xs.length ≤ 1000000) (hg : Gives B gf cap St xs) :
    Does Tryz.prog B 117 [.func (.func gf) #[] cap.toArray] (St + F) fun r H' => H' = Mine 3 1 r xs.length (zs xs) + (St + F) := by
  refine fn_intro 5 Tryz.func117 rfl rfl rfl ?_
  refine walk ?_
  refine s_call rfl (appendSeq_spec hx hg) rfl ?_
  rintro _ _ rfl
  refine walk ?_
  exact ret1 (.inr rfl) rfl rfl rfl
end
end Go.Proofs.YtlhnmbajbhaaoaaGreat
namespace Go.Proofs.YtlhnmbajbhaaoaaGreat
open Go Go.SL
set_option linter.unusedSimpArgs false
set_option linter.unusedVariables false
set_option maxRecDepth 10000
set_option maxHeartbeats 1000000
attribute [local irreducible] WP WPL QSeq QBlk QRet Does Cell Cells Rd Mine Ent Aside RV Yield
/-- A line's map, where it is laid. -/
abbrev MapO := Option (Nat × Assoc)
def mapV : MapO → Value
  | none => .map none
  | some x => .map (some x.1)
def mapH : MapO → HProp
  | none => emp
  | some x => MapAt x.1 x.2
def LnF (x : MapO) (h t : Int) (L : List Int) : Prop := match x with
  | none => L = []
  | some x => LinkF L x.2 h t
/-- A line is there to read. -/
def LnIn (B : World) (H : HProp) (p o : Nat) (L : List Int) : Prop := ∃ x h t, Cell B H p o (mapV x) ∧ Cell B H p (o + 1) (.int .i64 h) ∧ Cell B H p (o + 2) (.int .i64 t) ∧ LnF x h t L ∧ ∃ F, H = mapH x + F
section
variable {B : World} {F H G : HProp} {p o : Nat} {L : List Int} {y : Int}
theorem look {m : Assoc} {h t : Int} (k : LinkF L m h t) (x : Int) : ∃ a b p q, (mget m x).getD (lk 0 0 false false) = lk a b p q := by
  cases hm : mget m x with
  | none => exact ⟨_, _, _, _, rfl⟩
  | some v =>
    obtain ⟨i, a, b, _, rfl⟩ := k.vals hm
    exact ⟨_, _, _, _, rfl⟩
theorem lnLen (hl : LnIn B H p o L) : Does Tryz.prog B 123 [.pointer (some ⟨p, o, none⟩)] H fun r H' => H' = H ∧ r = .int .i64 L.length := by
  obtain ⟨x, h, t, c0, c1, c2, hf, F, rfl⟩ := hl
  refine fn_intro 10 Tryz.func123 rfl rfl rfl ?_
  cases x with
  | none =>
    have c0 : Cell B (mapH none + F) p o (.map none) := c0
    have : L = [] := hf
    subst this
    refine walk ?_
    refine s_mlenN rfl rfl ?_
    refine walk ?_
    (first | refine ret1 (v := .int _ _) (.inr rfl) rfl rfl ?_ | refine ret1  (.inr rfl) rfl rfl ?_ | refine ret1 (v := .int _ _) (.inl rfl) rfl rfl ?_ | refine ret1  (.inl rfl) rfl rfl ?_)
    exact ⟨rfl, rfl⟩
  | some x =>
    obtain ⟨b, m⟩ := x
    have c0 : Cell B (mapH (some (b, m)) + F) p o (.map (some b)) := c0
    have hf : LinkF L m h t := hf
    simp only [mapH] at *
    refine walk ?_
    refine s_mlen rfl rfl ?_
    rw [hf.len]
    refine walk ?_
    (first | refine ret1 (v := .int _ _) (.inr rfl) rfl rfl ?_ | refine ret1  (.inr rfl) rfl rfl ?_ | refine ret1 (v := .int _ _) (.inl rfl) rfl rfl ?_ | refine ret1  (.inl rfl) rfl rfl ?_)
    exact ⟨rfl, rfl⟩
theorem lnHas (hl : LnIn B H p o L) : Does Tryz.prog B 128 [.pointer (some ⟨p, o, none⟩), .int .i64 y] H fun r H' => H' = H ∧ r = .bool (decide (y ∈ L)) := by
  obtain ⟨x, h, t, c0, c1, c2, hf, F, rfl⟩ := hl
  refine fn_intro 19 Tryz.func128 rfl rfl rfl ?_
  cases x with
  | none =>
    have c0 : Cell B (mapH none + F) p o (.map none) := c0
    have : L = [] := hf
    subst this
    refine walk ?_
    refine s_mgetN2 rfl rfl rfl ?_
    refine walk ?_
    refine walkG ?_
    repeat ((first | (show WPL _ _ _ _ _ (⟨_, .alloc _, _, _, _, none⟩ :: _) _ _ _; refine s_alloc rfl ?_; intro _)); refine walkG ?_)
    (first | (apply retRD1 (G := (mapH none + F)) (.inr rfl) rfl; (· first | (refine rv_tmp (v := .bool _) rfl) | exact rv_tmp rfl); (· exact Ent.auto)) | (apply retRD1 (G := (mapH none + F)) (.inl rfl) rfl; (· first | (refine rv_tmp (v := .bool _) rfl) | exact rv_tmp rfl); (· exact Ent.auto)))
    exact ⟨rfl, rfl⟩
  | some x =>
    obtain ⟨b, m⟩ := x
    have c0 : Cell B (mapH (some (b, m)) + F) p o (.map (some b)) := c0
    have hf : LinkF L m h t := hf
    simp only [mapH] at *
    obtain ⟨a, b2, p2, q2, hv⟩ := look hf y
    refine walk ?_
    refine s_mget2 rfl rfl hv hf.there rfl ?_
    refine walk ?_
    refine walkG ?_
    repeat ((first | (show WPL _ _ _ _ _ (⟨_, .alloc _, _, _, _, none⟩ :: _) _ _ _; refine s_alloc rfl ?_; intro _)); refine walkG ?_)
    (first | (apply retRD1 (G := (MapAt b m + F)) (.inr rfl) rfl; (· first | (refine rv_tmp (v := .bool _) rfl) | exact rv_tmp rfl); (· exact Ent.auto)) | (apply retRD1 (G := (MapAt b m + F)) (.inl rfl) rfl; (· first | (refine rv_tmp (v := .bool _) rfl) | exact rv_tmp rfl); (· exact Ent.auto)))
    exact ⟨rfl, rfl⟩
theorem lnHead (hl : LnIn B H p o L) : Does Tryz.prog B 114 [.pointer (some ⟨p, o, none⟩)] H fun r H' => H' = H ∧ ∃ y, (0 < L.length → L[0]? = some y) ∧ r = .tuple #[.int .i64 y, .bool (decide (0 < L.length))] := by
  have hl' := hl
  obtain ⟨x, h, t, c0, c1, c2, hf, F, rfl⟩ := hl
  refine fn_intro 11 Tryz.func114 rfl rfl rfl ?_
  refine walk ?_
  refine s_call rfl (lnLen hl') rfl ?_
  rintro _ _ ⟨e_, rfl⟩
  obtain rfl := e_.symm
  refine walk ?_
  by_cases h0 : L.length = 0
  · refine walk ?_
    (first | refine ret2 (v := .int _ _) (x := .bool _) (.inr rfl) rfl rfl rfl ?_ | refine ret2  (.inr rfl) rfl rfl rfl ?_ | refine ret2 (v := .int _ _) (x := .bool _) (.inl rfl) rfl rfl rfl ?_ | refine ret2  (.inl rfl) rfl rfl rfl ?_)
    exact ⟨rfl, 0, by omega, by simp [h0]⟩
  · refine walk ?_
    (first | refine ret2 (v := .int _ _) (x := .bool _) (.inr rfl) rfl rfl rfl ?_ | refine ret2  (.inr rfl) rfl rfl rfl ?_ | refine ret2 (v := .int _ _) (x := .bool _) (.inl rfl) rfl rfl rfl ?_ | refine ret2  (.inl rfl) rfl rfl rfl ?_)
    exact ⟨rfl, h, fun _ => by
      cases x with
      | none => exact absurd (congrArg List.length (show L = [] from hf)) h0
      | some x =>
        obtain ⟨y, hy⟩ : ∃ y, L[0]? = some y := ⟨L[0], List.getElem?_eq_getElem (by omega)⟩
        have hf : LinkF L x.2 h t := hf
        rw [hf.hd y hy]; exact hy, by simp; omega⟩
end
end Go.Proofs.YtlhnmbajbhaaoaaGreat
namespace Go.Proofs.YtlhnmbajbhaaoaaGreat
open Go Go.SL
set_option linter.unusedSimpArgs false
set_option linter.unusedVariables false
set_option maxRecDepth 10000
set_option maxHeartbeats 1000000
attribute [local irreducible] WP WPL QSeq QBlk QRet Does Cell Cells Rd Mine Ent Aside RV Yield
section
variable {B : World} {F H G : HProp} {p o : Nat} {L : List Int} {y : Int}
theorem ln_gives {bd : Nat} (hl : LnIn B H p o L) : Gives B 127 [.pointer (some ⟨bd, 0, none⟩)] (blk bd [.pointer (some ⟨p, o, none⟩)] 151 + H) L := by
  intro l J Jx hy
  have hl0 := hl
  obtain ⟨x, h, t, c0, c1, c2, hf, F, rfl⟩ := hl
  simp only [HProp.add_assoc] at hy ⊢
  have hl1 : LnIn B (blk bd [.pointer (some ⟨p, o, none⟩)] 151 + (mapH x + (F + J []))) p o L := ⟨x, h, t, c0.ent Ent.auto, c1.ent Ent.auto, c2.ent Ent.auto, hf, _, HProp.add_left_comm _ _ _⟩
  refine fn_intro 27 Tryz.func127 rfl rfl rfl ?_
  refine walk ?_
  refine s_call rfl (lnHead hl1) rfl ?_
  rintro _ _ ⟨rfl, z, hz, rfl⟩
  refine walk ?_
  refine wp_loopF (α := Nat × Int) [3, 4, 5, 11, 12, 13, 14, 15, 16, 17, 18, 19, 20, 21, 22, 23, 24, 25, 26] (fun k => [(3, .int .i64 k.2), (4, .bool (decide (k.1 < L.length)))]) (fun k => blk bd [.pointer (some ⟨p, o, none⟩)] 151 + (mapH x + (F + J (L.take k.1)))) (fun k => k.1 ≤ L.length ∧ (k.1 < L.length → L[k.1]? = some k.2)) (fun k => L.length - k.1) (0, z) agreed (by rw [List.take_zero]; exact Ent.refl _) ⟨Nat.zero_le _, hz⟩ ?_
  rintro ⟨k, u⟩ g ⟨hk, hu⟩
  simp only [putAll] at hk hu ⊢
  by_cases hlt : k < L.length
  · have hu := hu hlt
    have hsplit : L = L.take k ++ L[k] :: L.drop (k + 1) := by
      rw [← List.drop_eq_getElem_cons hlt, List.take_append_drop]
    have hyk := hy _ _ _ hsplit
    rw [← List.take_succ_eq_append_getElem hlt] at hyk
    have hgx : L[k] = u := by rw [List.getElem?_eq_getElem hlt] at hu; exact Option.some.inj hu
    rw [hgx] at hyk
    rw [decide_eq_true hlt]
    refine walk ?_
    refine s_yield rfl rfl hyk rfl ?_
    rintro _ H' ⟨bo, rfl, he⟩
    refine WPL.ent he ?_
    cases bo with
    | true =>
      cases x with
      | none => exact absurd hlt (by rw [show L = [] from hf]; simp)
      | some x =>
        obtain ⟨b, m⟩ := x
        have c0 : Cell B (MapAt b m + F) p o (.map (some b)) := c0
        have hf : LinkF L m h t := hf
        obtain ⟨a', b', hm, ha, hb⟩ := hf.at_ k u hu
        have c3 : Cell B (blk bd [.pointer (some ⟨p, o, none⟩)] 151 + (MapAt b m + (F + J (L.take (k + 1))))) p o (.map (some b)) := c0.ent Ent.auto
        simp only [mapH, if_true] at *
        refine walk ?_
        refine s_mget (v := lk a' b' (decide (0 < k)) (decide (k + 1 < L.length))) rfl rfl (by rw [hm]; rfl) rfl ?_
        refine walk ?_
        refine walkG ?_
        repeat ((first | (show WPL _ _ _ _ _ (⟨_, .alloc _, _, _, _, none⟩ :: _) _ _ _; refine s_alloc rfl ?_; intro _) | (show WP _ _ _ _ (.region 3 _ true) _ _ _; (refine wp_draw [] (.look 0 (.look 1 (.look 2 (.look 3 (.look 4 (.look 5 .nil)))))) (by kernel_rfl) ?_; refine dwP ?_; refine dwL ?_; refine dwP ?_; refine dwL ?_; refine dwP ?_; refine dwP ?_; refine dw_nil ?_))); refine walkG ?_)
        exact ⟨(k + 1, b'), asided, agreed, Ent.auto, ⟨by omega, hb⟩, by simp only; omega⟩
    | false =>
      refine walk ?_
      refine ret0 (.inl rfl) rfl (.inr ⟨_, _, _, hsplit, ?_⟩)
      rw [hgx, ← hgx, ← List.take_succ_eq_append_getElem hlt]
      rfl
  · have hke : k = L.length := by omega
    subst hke
    rw [decide_eq_false hlt, List.take_length]
    refine walk ?_
    refine ret0 (.inl rfl) rfl (.inl rfl)
theorem lnEach : Does Tryz.prog B 118 [.pointer (some ⟨p, o, none⟩)] H fun r H' => ∃ bd, r = .func (.func 127) #[] #[.pointer (some ⟨bd, 0, none⟩)] ∧ H' = blk bd [.pointer (some ⟨p, o, none⟩)] 151 + H := by
  refine fn_intro 4 Tryz.func118 rfl rfl rfl ?_
  refine walk ?_
  refine s_box (cs := [.pointer (some ⟨p, o, none⟩)]) rfl rfl rfl ?_
  intro bd
  refine walk ?_
  refine s_makeFunc (first := []) (cap := [.tmp 1]) (vs := []) (us := [.pointer (some ⟨bd, 0, none⟩)]) rfl rfl rfl ?_
  refine walk ?_
  exact ret1 (v := .func _ _ _) (.inr rfl) rfl rfl ⟨bd, rfl, rfl⟩
theorem lnAll (hx : L.length ≤ 1000000) (hl : LnIn B H p o L) : Does Tryz.prog B 103 [.pointer (some ⟨p, o, none⟩)] H fun r H' => H' = Mine 3 1 r L.length (zs L) + H := by
  refine fn_intro 6 Tryz.func103 rfl rfl rfl ?_
  refine walk ?_
  refine s_call rfl (lnEach) rfl ?_
  rintro _ _ ⟨bd, rfl, rfl⟩
  refine walk ?_
  have e := collect_spec (F := emp) hx (ln_gives (bd := bd) hl)
  simp only [HProp.add_emp] at e
  refine s_call rfl e rfl ?_
  rintro r _ rfl
  refine walk ?_
  (first | (apply retRD1 (G := (Mine 3 1 r L.length (zs L) + H)) (.inr rfl) rfl; (· first | (refine rv_tmp (v := .slice _ _ _) rfl) | exact rv_tmp rfl); (· exact Ent.auto)) | (apply retRD1 (G := (Mine 3 1 r L.length (zs L) + H)) (.inl rfl) rfl; (· first | (refine rv_tmp (v := .slice _ _ _) rfl) | exact rv_tmp rfl); (· exact Ent.auto)))
  exact rfl
end
end Go.Proofs.YtlhnmbajbhaaoaaGreat
