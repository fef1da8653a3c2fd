/- Forms of the rules that fit a walk by program. No condition. -/
import Derived.Test.YtcnpcmdcbafaeaaSLKit
set_option linter.unusedSimpArgs false
set_option linter.unusedVariables false
namespace Go.SL
open Go Go.RowKit
section
variable {ro : Option Nat} {P : Program} {B : World} {n : Nat} {ops : Array Oper} {rest : List Oper} {fr : Fr} {H F : HProp} {Q : Post}
variable {d : Nat} {ty : TypeId} {pos : String} {after : Array Edge}
/-- A block is written over as a whole. -/
theorem s_storeV {t e : TypeId} {sz : Nat} {x y : Operand} {b : Nat} {vs cs : List Value} [i : Aggr P t sz] (hx : ev fr x = .pointer (some ⟨b, 0, none⟩)) [hb : HasBlk H b cs e F] (hy : ev fr y = .agg vs.toArray)
    (h1 : vs.all Value.oneCell' = true) (hl : Nat.beq vs.length sz = true) (ho : Nat.beq cs.length sz = true)
    (k : WPL ro P B n ops rest fr (blk b vs e + F) Q) : WPL ro P B n ops (⟨none, .store t x y, ty, pos, after, none⟩ :: rest) fr H Q :=
  s_storeW hx hy h1 (Nat.eq_of_beq_eq_true hl) (Nat.eq_of_beq_eq_true ho) k
/-- One cell of a block that is spelled out. -/
theorem s_store1 {t e : TypeId} {x y : Operand} {b o : Nat} {v : Value} {cs cs' : List Value} [i : Plain P t] (hx : ev fr x = .pointer (some ⟨b, o, none⟩)) [hb : HasBlk H b cs e F] (hy : ev fr y = v)
    (h1 : v.oneCell' = true) (ho : Nat.blt o cs.length = true) (hcs : cs.set o v = cs')
    (k : WPL ro P B n ops rest fr (blk b cs' e + F) Q) : WPL ro P B n ops (⟨none, .store t x y, ty, pos, after, none⟩ :: rest) fr H Q :=
  s_store hx hy h1 (by simpa [Nat.blt_eq] using ho) hcs k
end
end Go.SL
