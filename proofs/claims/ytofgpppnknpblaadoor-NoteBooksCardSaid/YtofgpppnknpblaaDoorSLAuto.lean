/- Forms of the rules that fit a walk by program. No condition. -/
import Derived.Test.YtofgpppnknpblaaDoorSLKit
import Derived.Test.YtofgpppnknpblaaDoorSLBits
import Derived.Test.YtofgpppnknpblaaDoorSLTools2
set_option linter.unusedSimpArgs false
set_option linter.unusedVariables false
namespace Go.SL
open Go Go.RowKit
class SetAt (cs : List Value) (o : Nat) (v : Value) (cs' : outParam (List Value)) : Prop where
  eq : cs.set o v = cs'
instance {a v : Value} {l : List Value} : SetAt (a :: l) 0 v (v :: l) := ⟨rfl⟩
instance {a v : Value} {l l' : List Value} {n : Nat} [i : SetAt l n v l'] : SetAt (a :: l) (n + 1) v (a :: l') := ⟨by rw [List.set_cons_succ, i.eq]⟩
section
variable {ro : Option Nat} {P : Program} {B : World} {n : Nat} {ops : Array Oper} {rest : List Oper} {fr : Fr} {H F : HProp} {Q : Post}
variable {d : Nat} {ty : TypeId} {pos : String} {after : Array Edge}
/-- A block is written over as a whole. -/
theorem s_storeV {t e : TypeId} {sz : Nat} {x y : Operand} {b : Nat} {vs cs : List Value} [i : Aggr P t sz] (hx : ev fr x = .pointer (some ⟨b, 0, none⟩)) [hb : HasBlk H b cs e F] (hy : ev fr y = .agg vs.toArray)
    (h1 : vs.all Value.oneCell' = true) (hl : Nat.beq vs.length sz = true) (ho : Nat.beq cs.length sz = true)
    (k : WPL ro P B n ops rest fr (blk b vs e + F) Q) : WPL ro P B n ops (⟨none, .store t x y, ty, pos, after, none⟩ :: rest) fr H Q :=
  s_storeW hx hy h1 (Nat.eq_of_beq_eq_true hl) (Nat.eq_of_beq_eq_true ho) k
theorem s_quoN {t yt : TypeId} {x y : Operand} {kd : IntKind} {p q r : Int} (hx : ev fr x = .int kd p) (hy : ev fr y = .int kd q) (hp : 0 ≤ p ∧ 0 < q) (hr : kd.wrap (p / q) = r)
    (hd : Nat.blt d n = true) (k : WPL ro P B n ops rest (fr.put d (.int kd r)) H Q) : WPL ro P B n ops (⟨some d, .binOp .quo t x y yt, ty, pos, after, none⟩ :: rest) fr H Q :=
  s_quo hx hy (by omega) (by rw [Int.tdiv_eq_ediv_of_nonneg hp.1]; exact hr) hd k
/-- One of two, where it is not known which. -/
theorem s_pickB {c x y : Operand} {b p q r : Bool} (hc : ev fr c = .bool b) (hx : ev fr x = .bool p) (hy : ev fr y = .bool q) (hr : (bif b then p else q) = r) (hd : Nat.blt d n = true) (k : WPL ro P B n ops rest (fr.put d (.bool r)) H Q) :
    WPL ro P B n ops (⟨some d, .pick c x y, ty, pos, after, none⟩ :: rest) fr H Q := by
  subst hr
  cases b
  · exact s_pick_f hc hy hd k
  · exact s_pick_t hc hx hd k
/-- One cell of a block that is spelled out. -/
theorem s_store1 {t e : TypeId} {x y : Operand} {b o : Nat} {v : Value} {cs cs' : List Value} [i : Plain P t] (hx : ev fr x = .pointer (some ⟨b, o, none⟩)) [hb : HasBlk H b cs e F] (hy : ev fr y = v)
    (h1 : v.oneCell' = true) (ho : Nat.blt o cs.length = true) [hcs : SetAt cs o v cs']
    (k : WPL ro P B n ops rest fr (blk b cs' e + F) Q) : WPL ro P B n ops (⟨none, .store t x y, ty, pos, after, none⟩ :: rest) fr H Q :=
  s_store hx hy h1 (by simpa [Nat.blt_eq] using ho) hcs.eq k
end
section
variable {P : Program} {B : World} {fn : Func} {R : Value → HProp → Prop} {e : Exit} {fr : Fr} {H G : HProp}
theorem QRet.dropR {v : Value} (he : e = .normal ∨ e = .ret) (hr : ∀ a w, (∀ t, a.getD t undef = fr t) → Holds B H w → (results fn a).run P w = .ok v w) (hE : Ent H G) (h : R v G) (hds : fr.ds = [] := by rfl) : QRet P B fn R e fr H :=
  ⟨he, v, H, G, by rw [hds]; unfold marks; rw [HProp.emp_add]; exact Ent.refl _, hr, hE, h⟩
theorem retRD1 {r : ResultVar} {v : Value} (he : e = .normal ∨ e = .ret) (hr : fn.results = #[r]) (h1 : RV P B fr H r v) (hE : Ent H G) (h : R v G) (hds : fr.ds = [] := by rfl) : QRet P B fn R e fr H := by
  obtain ⟨_, v', G1, G2, hE1, hres, hE2, rfl, rfl⟩ := retR1 (R := fun v' H' => v' = v ∧ H' = H) he hr h1 ⟨rfl, rfl⟩ hds
  exact QRet.dropR he (fun a w ha hw => hres a w ha (hw.ent (by rw [hds] at hE1; unfold marks at hE1; rw [HProp.emp_add] at hE1; exact hE1))) hE h hds
theorem retRD2 {r s : ResultVar} {v u : Value} (he : e = .normal ∨ e = .ret) (hr : fn.results = #[r, s]) (h1 : RV P B fr H r v) (h2 : RV P B fr H s u) (hE : Ent H G) (h : R (.tuple #[v, u]) G) (hds : fr.ds = [] := by rfl) : QRet P B fn R e fr H := by
  obtain ⟨_, v', G1, G2, hE1, hres, hE2, rfl, rfl⟩ := retR2 (R := fun v' H' => v' = (.tuple #[v, u]) ∧ H' = H) he hr h1 h2 ⟨rfl, rfl⟩ hds
  exact QRet.dropR he (fun a w ha hw => hres a w ha (hw.ent (by rw [hds] at hE1; unfold marks at hE1; rw [HProp.emp_add] at hE1; exact hE1))) hE h hds
theorem retRD3 {r s t : ResultVar} {v u x : Value} (he : e = .normal ∨ e = .ret) (hr : fn.results = #[r, s, t]) (h1 : RV P B fr H r v) (h2 : RV P B fr H s u) (h3 : RV P B fr H t x) (hE : Ent H G) (h : R (.tuple #[v, u, x]) G) (hds : fr.ds = [] := by rfl) : QRet P B fn R e fr H := by
  obtain ⟨_, v', G1, G2, hE1, hres, hE2, rfl, rfl⟩ := retR3 (R := fun v' H' => v' = (.tuple #[v, u, x]) ∧ H' = H) he hr h1 h2 h3 ⟨rfl, rfl⟩ hds
  exact QRet.dropR he (fun a w ha hw => hres a w ha (hw.ent (by rw [hds] at hE1; unfold marks at hE1; rw [HProp.emp_add] at hE1; exact hE1))) hE h hds
end
end Go.SL
