/- The table's contracts, found by its address. No condition. -/
import Derived.Test.YtnfipmbmknlmpaaTLaw5
import Derived.Test.YtnfipmbmknlmpaaSLKit
namespace Go.Proofs.Ytnfipmbmknlmpaa
open Go Go.SL
set_option linter.unusedSimpArgs false
set_option linter.unusedVariables false
set_option maxRecDepth 10000
attribute [local irreducible] WP WPL QSeq QBlk QRet Does Cell Cells Rd Own Ent Aside RV TabX TabAt

abbrev ptr (p : Nat) : Value := .pointer (some ⟨p, 0, none⟩)
section
variable {B : World} {H F G : HProp} {p q : Nat} {T U : Tab} {K : Int}
theorem tLen [HasAt TabAt H p T F] : Does Try.prog B 25 [ptr p] H fun r H' => H' = H ∧ r = .int .i64 T.all.length := Does.atSame len_spec
theorem tMake [HasAt TabAt H p T F] (ok : T.ok K) (hK : K ≤ 100000) : Does Try.prog B 12 [ptr p] H fun r H' => H' = TabAt p T.make.2.2 + F ∧ r = .tuple #[.int .i64 T.make.1, .int .i64 T.make.2.1] := Does.at (make_spec ok hK).same
theorem tSet [HasAt TabAt H p T F] {g x : Int} (ok : T.ok K) (hK : K ≤ 100000) : Does Try.prog B 14 [ptr p, .int .i64 g, .int .i64 x] H fun r H' => H' = TabAt p (T.set g x).2 + F ∧ r = .int .i64 (T.set g x).1 := Does.at (set_spec ok hK).same
theorem tCopy [h : HasAt TabAt H p T F] (ok : T.ok K) (hK : K ≤ 100000) : Does Try.prog B 22 [ptr p] H fun r H' => ∃ q, r = ptr q ∧ H' = TabAt q T + H := by
  have hl := ok.long
  exact (Does.at (copy_spec ok.size (by omega))).weak fun _ _ ⟨X, e, q, hr, hX⟩ => ⟨_, e, q, hr, by rw [hX, h.eq]⟩
theorem tSame [HasAt TabAt H p T F] [HasAt TabAt F q U G] : Does Try.prog B 23 [ptr p, ptr q] H fun r H' => H' = H ∧ r = .bool (sameTab T U) := Does.atSame2 same_tt
theorem tRow [h : HasAt TabAt H p T F] (ok : T.ok K) (hK : K ≤ 100000) : Does Try.prog B 24 [ptr p] H fun r H' => H' = Own 3 1 r T.row.length (zs T.row) + H := by
  have hl := ok.long
  exact (Does.at (row_spec (by omega))).weak fun _ _ ⟨X, e, hX⟩ => ⟨_, e, by rw [hX, h.eq]⟩
theorem tOf [h : HasAt TabAt H p T F] {s : Value} {xs : List Int} (hs : Rd B F 1 s xs.length (zs xs)) (ok : T.ok K) : Does Try.prog B 16 [ptr p, s] H fun r H' => H' = Own 3 1 r (ofTo T.all xs T.all.length).length (zs (ofTo T.all xs T.all.length)) + H := by
  exact (Does.at (of_spec hs ok.size)).weak fun _ _ ⟨X, e, hX⟩ => ⟨_, e, by rw [hX, h.eq]⟩
theorem tCount [h : HasAt TabAt H p T F] {s : Value} {xs : List Int} (hs : Rd B F 1 s xs.length (zs xs)) (ok : T.ok K) : Does Try.prog B 20 [ptr p, s] H fun r H' => H' = H ∧ r = .int .i64 (ofTo T.all xs T.all.length).length := by
  exact Does.atSame (count_spec hs ok.size)
theorem tStatus [h : HasAt TabAt H p T F] {g : Int} : Does Try.prog B 18 [ptr p, .int .i64 g] H fun r H' => H' = H ∧
    r = if 0 ≤ g ∧ g < T.all.length then .tuple #[.int .i64 (T.all[g.toNat]?.getD (0, 0)).1, .bool true] else .tuple #[.int .i64 0, .bool false] := by
  refine (Does.at status_spec).weak fun _ _ ⟨e, h1, h2⟩ => ⟨H, e.trans (Ent.of_eq h.eq.symm), rfl, ?_⟩
  split
  · rename_i hg
    obtain ⟨k, rfl⟩ := Int.eq_ofNat_of_zero_le hg.1
    have hk : k < T.all.length := by omega
    simpa [hk] using h1 k rfl hk
  · rename_i hg
    exact h2 hg
theorem tBorn [h : HasAt TabAt H p T F] {g : Int} : Does Try.prog B 19 [ptr p, .int .i64 g] H fun r H' => H' = H ∧
    r = if 0 ≤ g ∧ g < T.all.length then .int .i64 (T.all[g.toNat]?.getD (0, 0)).2 else .int .i64 0 := by
  refine (Does.at born_spec).weak fun _ _ ⟨e, h1, h2⟩ => ⟨H, e.trans (Ent.of_eq h.eq.symm), rfl, ?_⟩
  split
  · rename_i hg
    obtain ⟨k, rfl⟩ := Int.eq_ofNat_of_zero_le hg.1
    have hk : k < T.all.length := by omega
    simpa [hk] using h1 k rfl hk
  · rename_i hg
    exact h2 hg
theorem tNew {n : Int} {m : Nat} (hm : max 0 (min n 256) = (m : Int)) : Does Try.prog B 9 [.int .i64 n] H fun r H' => ∃ q, r = ptr q ∧ H' = TabAt q (Tab.new m) + H :=
  (new_spec hm).weak fun _ _ ⟨q, hr, e⟩ => ⟨_, e, q, hr, rfl⟩
theorem tWorks : Does Try.prog B 8 [] H fun r H' => H' = H ∧ r = .bool true := works_spec.same
theorem tTable [h : HasAt TabAt H p T F] {r : Value} {K L : Int} (hr : RefV B F r U) (ok : T.ok K) (ok2 : U.ok L) (h1 : K ≤ 100000) : Does Try.prog B 26 [ptr p, r] H fun v H' => H' = H ∧ v = .bool (decide (T.all = U.all ∧ T.row = U.row)) := by
  have hl := ok.long
  have hl2 := ok2.size
  exact Does.atSame (sameTable_spec hr ok.size (by omega) (by omega))

/-- A table of the reference, as it lies in memory. -/
structure RefA where
  o1 : Option Addr
  k1 : Nat
  o2 : Option Addr
  k2 : Nat
  o3 : Option Addr
  k3 : Nat
abbrev RefA.cells (a : RefA) (T : Tab) : List Value := [.slice a.o1 T.all.length a.k1, .slice a.o2 T.all.length a.k2, .slice a.o3 T.row.length a.k3]
theorem RefV.cells {r : Value} (h : RefV B H r T) : ∃ a : RefA, r = .agg (a.cells T).toArray := by
  obtain ⟨s1, s2, s3, rfl, y1, y2, y3⟩ := h
  unfold Rd at y1 y2 y3
  obtain ⟨v1, j1, rfl, _⟩ := y1
  obtain ⟨v2, j2, rfl, _⟩ := y2
  obtain ⟨v3, j3, rfl, _⟩ := y3
  exact ⟨⟨v1, j1, v2, j2, v3, j3⟩, rfl⟩
abbrev RefC (B : World) (H : HProp) (a : RefA) (T : Tab) : Prop := RefV B H (.agg (a.cells T).toArray) T
theorem rNew {n : Int} {m : Nat} (hm : max 0 (min n 256) = (m : Int)) : Does Try.prog B 10 [.int .i64 n] H fun v H' => ∃ X a, v = .agg (RefA.cells a (Tab.new m)).toArray ∧ H' = X + H ∧ RefC B X a (Tab.new m) :=
  (refNew_spec hm).weak fun _ _ ⟨X, e, h⟩ => ⟨_, e, by
    obtain ⟨a, rfl⟩ := h.cells
    exact ⟨X, a, rfl, rfl, h⟩⟩
theorem rMake {a : RefA} (hr : RefC B H a T) (ok : T.ok K) (hK : K ≤ 100000) : Does Try.prog B 11 [.agg (a.cells T).toArray] H fun v H' => ∃ X a', v = .tuple #[.agg (RefA.cells a' T.make.2.2).toArray, .int .i64 T.make.1, .int .i64 T.make.2.1] ∧ H' = X + H ∧ ∀ G, RefC B G a T → RefC B (X + G) a' T.make.2.2 :=
  (refMake_spec hr ok hK).weak fun _ _ ⟨X, r', e, h, hv⟩ => ⟨_, e, by
    obtain ⟨a', rfl⟩ := (h H hr).cells
    exact ⟨X, a', hv, rfl, h⟩⟩
theorem rSet {a : RefA} {g x : Int} (hr : RefC B H a T) (ok : T.ok K) (hK : K ≤ 100000) : Does Try.prog B 13 [.agg (a.cells T).toArray, .int .i64 g, .int .i64 x] H fun v H' => ∃ X a', v = .tuple #[.agg (RefA.cells a' (T.set g x).2).toArray, .int .i64 (T.set g x).1] ∧ H' = X + H ∧ ∀ G, RefC B G a T → RefC B (X + G) a' (T.set g x).2 :=
  (refSet_spec hr ok hK).weak fun _ _ ⟨X, r', e, h, hv⟩ => ⟨_, e, by
    obtain ⟨a', rfl⟩ := (h H hr).cells
    exact ⟨X, a', hv, rfl, h⟩⟩
theorem rOf {a : RefA} {s : Value} {xs : List Int} (hr : RefC B H a T) (hs : Rd B H 1 s xs.length (zs xs)) (ok : T.ok K) : Does Try.prog B 15 [.agg (a.cells T).toArray, s] H fun v H' => H' = Own 3 1 v (ofTo T.all xs T.all.length).length (zs (ofTo T.all xs T.all.length)) + H := by
  have := ok.size
  exact (refOf_spec hr hs (by omega)).weak fun _ _ ⟨X, e, hX⟩ => ⟨_, e, by rw [hX]⟩
end
end Go.Proofs.Ytnfipmbmknlmpaa
