/- Rows of whole numbers in memory. No condition. -/
import Derived.Test.YtofgpppnknpblaaDoorSLEqs
import Derived.Test.YtofgpppnknpblaaDoorSLBits
set_option linter.unusedSimpArgs false
set_option linter.unusedVariables false
namespace Go.SL
open Go Go.RowKit
/-- Whole numbers, as they lie in memory. -/
def zs (l : List Int) : List Value := l.map (.int .i64)
theorem zs_length (l : List Int) : (zs l).length = l.length := by simp [zs]
theorem zs_get (l : List Int) (k : Nat) (h : k < l.length) : (zs l)[k]? = some (.int .i64 l[k]) := by simp [zs, h]
theorem zs_one (l : List Int) : (zs l).all Value.oneCell' = true := by simp [zs, Value.oneCell']
theorem zs_append (l m : List Int) : zs (l ++ m) = zs l ++ zs m := by simp [zs]
theorem zs_push (l : List Int) (x : Int) : zs (l ++ [x]) = zs l ++ [.int .i64 x] := by simp [zs]
theorem len_push {α : Type} (l : List α) (x : α) : (l ++ [x]).length = l.length + 1 := by simp
theorem zs_set (l : List Int) (k : Nat) (x : Int) : (zs l).set k (.int .i64 x) = zs (l.set k x) := by simp [zs, List.map_set]
theorem zs_take (l : List Int) (k : Nat) : (zs l).take k = zs (l.take k) := by simp [zs, List.map_take]
theorem zs_drop (l : List Int) (k : Nat) : (zs l).drop k = zs (l.drop k) := by simp [zs, List.map_drop]
section
variable {B : World} {H G F : HProp} {b o k : Nat} {l : List Int} {sp : List Value} {e : TypeId}
theorem Cell.atZs [i : HasBlk H b (zs l) e F] (h : k < l.length) : Cell B H b k (.int .i64 l[k]) := Cell.blk (zs_get l k h)
theorem Cell.atZsA [i : HasBlk H b (zs l ++ sp) e F] (h : k < l.length) : Cell B H b k (.int .i64 l[k]) :=
  Cell.blk (by rw [List.getElem?_append_left (by rw [zs_length]; exact h)]; exact zs_get l k h)
theorem Cells.atZs (c : Cells B G b o (zs l)) (h : k < l.length) (e : Ent H G) : Cell B H b (o + k) (.int .i64 l[k]) := (c.cell (zs_get l k h)).ent e
end
end Go.SL
