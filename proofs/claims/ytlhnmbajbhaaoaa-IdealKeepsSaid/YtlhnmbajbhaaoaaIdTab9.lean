/- The table's contracts, found by its address. No condition. -/
import Derived.Test.YtlhnmbajbhaaoaaIdTab6
import Derived.Test.YtlhnmbajbhaaoaaSL3
namespace Go.Proofs.Ytlhnmbajbhaaoaa
open Go Go.SL
set_option linter.unusedSimpArgs false
set_option linter.unusedVariables false
set_option maxRecDepth 10000
attribute [local irreducible] WP WPL QSeq QBlk QRet Does Cell Cells Rd Mine Ent Aside RV TabX TabAt

abbrev ptr (p : Nat) : Value := .pointer (some ⟨p, 0, none⟩)
section
variable {B : World} {H F G : HProp} {p q : Nat} {T U : Tab} {K : Int}
theorem make_spec {K : Int} (ok : T.ok K) (hK : K ≤ 100000) : Does Try.prog B 24 [.pointer (some ⟨p, 0, none⟩)] (TabAt p T + F) fun r H' => Ent H' (TabAt p T.make.2.2 + F) ∧ r = .tuple #[.int .i64 T.make.1, .int .i64 T.make.2.1] := by
  have hl := ok.long
  unfold Tab.make
  cases hr : T.row with
  | nil => exact make_none hr
  | cons g rest =>
    have hg := ok.row g (by simp [hr])
    obtain ⟨k, rfl⟩ := Int.eq_ofNat_of_zero_le hg.1
    have hk : k < T.all.length := by omega
    have ha := ok.all T.all[k] (List.getElem_mem hk)
    have h := make_some (B := B) (F := F) (p := p) hr hk (by omega) (by omega)
    simpa [hk] using h
theorem set_spec {K g x : Int} (ok : T.ok K) (hK : K ≤ 100000) : Does Try.prog B 45 [.pointer (some ⟨p, 0, none⟩), .int .i64 g, .int .i64 x] (TabAt p T + F) fun r H' => Ent H' (TabAt p (T.set g x).2 + F) ∧ r = .int .i64 (T.set g x).1 := by
  have hl := ok.long
  by_cases hg : 0 ≤ g ∧ g < T.all.length
  · obtain ⟨k, rfl⟩ := Int.eq_ofNat_of_zero_le hg.1
    have hk : k < T.all.length := by omega
    have ha := ok.all T.all[k] (List.getElem_mem hk)
    exact set_in hk (by omega) (by omega) (by omega)
  · have e : T.set g x = (5, T) := by unfold Tab.set; rw [if_neg hg]
    rw [e]
    exact set_out hg

theorem tLen [HasAt TabAt H p T F] : Does Try.prog B 85 [ptr p] H fun r H' => H' = H ∧ r = .int .i64 T.all.length := Does.atSame len_spec
theorem tMake [HasAt TabAt H p T F] (ok : T.ok K) (hK : K ≤ 100000) : Does Try.prog B 24 [ptr p] H fun r H' => H' = TabAt p T.make.2.2 + F ∧ r = .tuple #[.int .i64 T.make.1, .int .i64 T.make.2.1] := Does.at (make_spec ok hK).same
theorem tSet [HasAt TabAt H p T F] {g x : Int} (ok : T.ok K) (hK : K ≤ 100000) : Does Try.prog B 45 [ptr p, .int .i64 g, .int .i64 x] H fun r H' => H' = TabAt p (T.set g x).2 + F ∧ r = .int .i64 (T.set g x).1 := Does.at (set_spec ok hK).same
theorem tCopy [h : HasAt TabAt H p T F] (ok : T.ok K) (hK : K ≤ 100000) : Does Try.prog B 32 [ptr p] H fun r H' => ∃ q, r = ptr q ∧ H' = TabAt q T + H := by
  have hl := ok.long
  exact (Does.at (copy_spec ok.size (by omega))).weak fun _ _ ⟨X, e, q, hr, hX⟩ => ⟨_, e, q, hr, by rw [hX, h.eq]⟩
theorem tRow [h : HasAt TabAt H p T F] (ok : T.ok K) (hK : K ≤ 100000) : Does Try.prog B 40 [ptr p] H fun r H' => H' = Mine 3 1 r T.row.length (zs T.row) + H := by
  have hl := ok.long
  exact (Does.at (row_spec (by omega))).weak fun _ _ ⟨X, e, hX⟩ => ⟨_, e, by rw [hX, h.eq]⟩
theorem tStatus [h : HasAt TabAt H p T F] {g : Int} : Does Try.prog B 28 [ptr p, .int .i64 g] H fun r H' => H' = H ∧
    r = if 0 ≤ g ∧ g < T.all.length then .tuple #[.int .i64 (T.all[g.toNat]?.getD (0, 0)).1, .bool true] else .tuple #[.int .i64 0, .bool false] := by
  refine (Does.at status_spec).weak fun _ _ ⟨e, h1, h2⟩ => ⟨H, e.trans (Ent.of_eq h.eq.symm), rfl, ?_⟩
  split
  · rename_i hg
    obtain ⟨k, rfl⟩ := Int.eq_ofNat_of_zero_le hg.1
    have hk : k < T.all.length := by omega
    simpa [hk] using h1 k rfl hk
  · rename_i hg
    exact h2 hg
theorem tNew {n : Int} {m : Nat} (hm : max 0 (min n 256) = (m : Int)) : Does Try.prog B 22 [.int .i64 n] H fun r H' => ∃ q, r = ptr q ∧ H' = TabAt q (Tab.new m) + H :=
  (new_spec hm).weak fun _ _ ⟨q, hr, e⟩ => ⟨_, e, q, hr, rfl⟩
end
end Go.Proofs.Ytlhnmbajbhaaoaa
