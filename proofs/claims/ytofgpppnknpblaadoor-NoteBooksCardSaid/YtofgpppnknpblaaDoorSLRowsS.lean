/- Rows of strings in memory. No condition. -/
import Derived.Test.YtofgpppnknpblaaDoorSLStr2
import Derived.Test.YtofgpppnknpblaaDoorSLRows
set_option linter.unusedSimpArgs false
set_option linter.unusedVariables false
namespace Go.SL
open Go Go.RowKit
/-- Strings, as they lie in memory. -/
def ss (l : List (List UInt8)) : List Value := l.map str
theorem ss_length (l : List (List UInt8)) : (ss l).length = l.length := by simp [ss]
theorem ss_get (l : List (List UInt8)) (k : Nat) (h : k < l.length) : (ss l)[k]? = some (str l[k]) := by simp [ss, h]
theorem ss_one (l : List (List UInt8)) : (ss l).all Value.oneCell' = true := by simp [ss, Value.oneCell']
theorem ss_append (l m : List (List UInt8)) : ss (l ++ m) = ss l ++ ss m := by simp [ss]
theorem ss_push (l : List (List UInt8)) (x : List UInt8) : ss (l ++ [x]) = ss l ++ [str x] := by simp [ss]
theorem ss_take (l : List (List UInt8)) (k : Nat) : (ss l).take k = ss (l.take k) := by simp [ss, List.map_take]
theorem ss_drop (l : List (List UInt8)) (k : Nat) : (ss l).drop k = ss (l.drop k) := by simp [ss, List.map_drop]
end Go.SL
