/- The law on a table that is not there; what a table does at all. No condition. -/
import Derived.Test.YtnfipmbmknlmpaaTTab7
namespace Go.Proofs.Ytnfipmbmknlmpaa
open Go Go.SL
set_option linter.unusedSimpArgs false
set_option linter.unusedVariables false
set_option maxRecDepth 10000
attribute [local irreducible] WP WPL QSeq QBlk QRet Does Cell Cells Rd Own Ent Aside RV TabX TabAt

section
variable {B : World} {F H : HProp} {p q : Nat} {T U : Tab}

theorem make_spec {K : Int} (ok : T.ok K) (hK : K ≤ 100000) : Does Try.prog B 12 [.pointer (some ⟨p, 0, none⟩)] (TabAt p T + F) fun r H' => Ent H' (TabAt p T.make.2.2 + F) ∧ r = .tuple #[.int .i64 T.make.1, .int .i64 T.make.2.1] := by
  have hl := ok.long
  unfold Tab.make
  cases hr : T.row with
  | nil => exact make_none hr
  | cons g rest =>
    have hg := ok.row g (by simp [hr])
    obtain ⟨k, rfl⟩ := Int.eq_ofNat_of_zero_le hg.1
    have hk : k < T.all.length := by omega
    have ha := ok.all T.all[k] (List.getElem_mem hk)
    have h := make_some (B := B) (F := F) (p := p) hr hk (by omega) (by omega)
    simpa [hk] using h
theorem set_spec {K g x : Int} (ok : T.ok K) (hK : K ≤ 100000) : Does Try.prog B 14 [.pointer (some ⟨p, 0, none⟩), .int .i64 g, .int .i64 x] (TabAt p T + F) fun r H' => Ent H' (TabAt p (T.set g x).2 + F) ∧ r = .int .i64 (T.set g x).1 := by
  have hl := ok.long
  by_cases hg : 0 ≤ g ∧ g < T.all.length
  · obtain ⟨k, rfl⟩ := Int.eq_ofNat_of_zero_le hg.1
    have hk : k < T.all.length := by omega
    have ha := ok.all T.all[k] (List.getElem_mem hk)
    exact set_in hk (by omega) (by omega) (by omega)
  · have e : T.set g x = (5, T) := by unfold Tab.set; rw [if_neg hg]
    rw [e]
    exact set_out hg

theorem works_spec : Does Try.prog B 8 [] F fun r H' => Ent H' F ∧ r = .bool true := by
  have e1 : (Tab.new 3).make = (0, 0, ⟨[(1, 1), (0, 0), (0, 0)], [1, 2]⟩) := by rfl
  have e2 : (Tab.mk [(1, 1), (0, 0), (0, 0)] [1, 2]).make = (1, 0, ⟨[(1, 1), (1, 1), (0, 0)], [2]⟩) := by rfl
  have e3 : (Tab.mk [(1, 1), (1, 1), (0, 0)] [2]).set 0 2 = (0, ⟨[(2, 1), (1, 1), (0, 0)], [2]⟩) := by rfl
  have e4 : (Tab.mk [(2, 1), (1, 1), (0, 0)] [2]).set 0 0 = (0, ⟨[(0, 1), (1, 1), (0, 0)], [0, 2]⟩) := by rfl
  have e5 : (Tab.mk [(0, 1), (1, 1), (0, 0)] [0, 2]).make = (0, 0, ⟨[(1, 2), (1, 1), (0, 0)], [2]⟩) := by rfl
  have e6 : (Tab.mk [(1, 2), (1, 1), (0, 0)] [2]).make = (2, 0, ⟨[(1, 2), (1, 1), (1, 1)], []⟩) := by rfl
  have e7 : (Tab.mk [(1, 2), (1, 1), (1, 1)] []).make = (-1, 130, ⟨[(1, 2), (1, 1), (1, 1)], []⟩) := by rfl
  have e8 : (Tab.mk [(1, 2), (1, 1), (1, 1)] []).set 1 3 = (4, ⟨[(1, 2), (1, 1), (1, 1)], []⟩) := by rfl
  have e9 : (Tab.mk [(1, 2), (1, 1), (1, 1)] []).set 1 2 = (0, ⟨[(1, 2), (2, 1), (1, 1)], []⟩) := by rfl
  have ea : (Tab.mk [(1, 2), (2, 1), (1, 1)] []).set 1 3 = (0, ⟨[(1, 2), (3, 1), (1, 1)], []⟩) := by rfl
  have eb : (Tab.mk [(1, 2), (3, 1), (1, 1)] []).set 1 2 = (4, ⟨[(1, 2), (3, 1), (1, 1)], []⟩) := by rfl
  have k0 : (Tab.new 3).ok 0 := Tab.ok.new (by omega)
  have k1 := k0.make; rw [e1] at k1; dsimp only at k1
  have k2 := k1.make; rw [e2] at k2; dsimp only at k2
  have k3 := k2.set 0 2; rw [e3] at k3; dsimp only at k3
  have k4 := k3.set 0 0; rw [e4] at k4; dsimp only at k4
  have k5 := k4.make; rw [e5] at k5; dsimp only at k5
  have k6 := k5.make; rw [e6] at k6; dsimp only at k6
  have k7 := k6.make; rw [e7] at k7; dsimp only at k7
  have k8 := k7.set 1 3; rw [e8] at k8; dsimp only at k8
  have k9 := k8.set 1 2; rw [e9] at k9; dsimp only at k9
  have ka := k9.set 1 3; rw [ea] at ka; dsimp only at ka
  refine fn_intro 112 Try.func8 rfl rfl rfl ?_
  refine walk ?_
  refine s_call rfl (new_spec (m := 3) (by decide)) rfl ?_
  rintro _ H' ⟨q, rfl, he⟩
  refine WPL.ent he ?_
  refine walk ?_
  have c := make_spec (B := B) (F := F) (p := q) k0 (by omega); rw [e1] at c; dsimp only at c
  refine s_call rfl c rfl ?_
  rintro _ H' ⟨he, rfl⟩
  refine WPL.ent he ?_
  refine walk ?_
  have c := make_spec (B := B) (F := F) (p := q) k1 (by omega); rw [e2] at c; dsimp only at c
  refine s_call rfl c rfl ?_
  rintro _ H' ⟨he, rfl⟩
  refine WPL.ent he ?_
  refine walk ?_
  have c := set_spec (B := B) (F := F) (p := q) (g := 0) (x := 2) k2 (by omega); rw [e3] at c; dsimp only at c
  refine s_call rfl c rfl ?_
  rintro _ H' ⟨he, rfl⟩
  refine WPL.ent he ?_
  refine walk ?_
  have c := set_spec (B := B) (F := F) (p := q) (g := 0) (x := 0) k3 (by omega); rw [e4] at c; dsimp only at c
  refine s_call rfl c rfl ?_
  rintro _ H' ⟨he, rfl⟩
  refine WPL.ent he ?_
  refine walk ?_
  have c := make_spec (B := B) (F := F) (p := q) k4 (by omega); rw [e5] at c; dsimp only at c
  refine s_call rfl c rfl ?_
  rintro _ H' ⟨he, rfl⟩
  refine WPL.ent he ?_
  refine walk ?_
  have c := make_spec (B := B) (F := F) (p := q) k5 (by omega); rw [e6] at c; dsimp only at c
  refine s_call rfl c rfl ?_
  rintro _ H' ⟨he, rfl⟩
  refine WPL.ent he ?_
  refine walk ?_
  have c := make_spec (B := B) (F := F) (p := q) k6 (by omega); rw [e7] at c; dsimp only at c
  refine s_call rfl c rfl ?_
  rintro _ H' ⟨he, rfl⟩
  refine WPL.ent he ?_
  refine walk ?_
  have c := set_spec (B := B) (F := F) (p := q) (g := 1) (x := 3) k7 (by omega); rw [e8] at c; dsimp only at c
  refine s_call rfl c rfl ?_
  rintro _ H' ⟨he, rfl⟩
  refine WPL.ent he ?_
  refine walk ?_
  have c := set_spec (B := B) (F := F) (p := q) (g := 1) (x := 2) k8 (by omega); rw [e9] at c; dsimp only at c
  refine s_call rfl c rfl ?_
  rintro _ H' ⟨he, rfl⟩
  refine WPL.ent he ?_
  refine walk ?_
  have c := set_spec (B := B) (F := F) (p := q) (g := 1) (x := 3) k9 (by omega); rw [ea] at c; dsimp only at c
  refine s_call rfl c rfl ?_
  rintro _ H' ⟨he, rfl⟩
  refine WPL.ent he ?_
  refine walk ?_
  have c := set_spec (B := B) (F := F) (p := q) (g := 1) (x := 2) ka (by omega); rw [eb] at c; dsimp only at c
  refine s_call rfl c rfl ?_
  rintro _ H' ⟨he, rfl⟩
  refine WPL.ent he ?_
  refine walk ?_
  exact ret1 (v := .bool _) (.inr rfl) rfl rfl ⟨Ent.drop_left _ _, rfl⟩

theorem tableNone_spec {g x : Int} : Does Try.prog B 6 [.int .i64 g, .int .i64 x] F fun r H' => Ent H' F ∧ r = .bool true := by
  refine fn_intro 97 Try.func6 rfl rfl rfl ?_
  refine walk ?_
  refine s_call rfl make_nil rfl ?_
  rintro _ _ ⟨rfl, rfl⟩
  refine walk ?_
  refine s_call rfl status_nil rfl ?_
  rintro _ _ ⟨rfl, rfl⟩
  refine walk ?_
  refine s_call rfl set_nil rfl ?_
  rintro _ _ ⟨rfl, rfl⟩
  refine walk ?_
  refine s_call rfl len_nil rfl ?_
  rintro _ _ ⟨rfl, rfl⟩
  refine walk ?_
  refine s_buildInts (cs := [.int _ _, .int _ _, .int _ _]) rfl rfl rfl rfl rfl ?_
  intro b1
  refine walk ?_
  refine s_call rfl count_nil rfl ?_
  rintro _ _ ⟨rfl, rfl⟩
  refine walk ?_
  refine s_buildInts (cs := [.int _ _]) rfl rfl rfl rfl rfl ?_
  intro b2
  refine walk ?_
  refine s_call rfl of_nil rfl ?_
  rintro _ _ ⟨rfl, rfl⟩
  refine walk ?_
  refine s_call rfl row_nil rfl ?_
  rintro _ _ ⟨rfl, rfl⟩
  refine walk ?_
  refine s_call rfl born_nil rfl ?_
  rintro _ _ ⟨rfl, rfl⟩
  refine walk ?_
  refine s_call rfl copy_nil rfl ?_
  rintro _ _ ⟨rfl, rfl⟩
  refine walk ?_
  refine s_call rfl same_nn rfl ?_
  rintro _ _ ⟨rfl, rfl⟩
  refine walk ?_
  refine s_call rfl (new_spec (m := 0) (by decide)) rfl ?_
  rintro _ H' ⟨q0, rfl, he⟩
  refine WPL.ent he ?_
  refine walk ?_
  refine s_call rfl same_nt rfl ?_
  rintro _ H' ⟨he, rfl⟩
  refine WPL.ent he ?_
  rw [show decide ((Tab.new 0).all.length = 0) = true from rfl]
  refine walk ?_
  refine s_call rfl (new_spec (m := 1) (by decide)) rfl ?_
  rintro _ H' ⟨q1, rfl, he⟩
  refine WPL.ent he ?_
  refine walk ?_
  refine s_call rfl same_nt rfl ?_
  rintro _ H' ⟨he, rfl⟩
  refine WPL.ent he ?_
  rw [show decide ((Tab.new 1).all.length = 0) = false from rfl]
  refine walk ?_
  refine s_call rfl works_spec rfl ?_
  rintro _ H' ⟨he, rfl⟩
  refine WPL.ent he ?_
  refine walk ?_
  refine ret1 (v := .bool _) (.inr rfl) rfl rfl ⟨?_, rfl⟩
  refine (Ent.drop_left _ _).trans ((Ent.drop_left _ _).trans ((Ent.drop_left _ _).trans (Ent.drop_left _ _)))
end
end Go.Proofs.Ytnfipmbmknlmpaa
