/- The table: what looks at it. No condition. -/
import Derived.Test.YtnfipmbmknlmpaaTTab2
namespace Go.Proofs.Ytnfipmbmknlmpaa
open Go Go.SL
set_option linter.unusedSimpArgs false
set_option linter.unusedVariables false
set_option maxRecDepth 10000
attribute [local irreducible] WP WPL QSeq QBlk QRet Does Cell Cells Rd Own Ent Aside RV TabX

/-- Who of the first k has one of some statuses. -/
def ofTo (st : List (Int × Int)) (some : List Int) : Nat → List Int
  | 0 => []
  | k + 1 => ofTo st some k ++ (if (st[k]?.getD (0, 0)).1 ∈ some then [(k : Int)] else [])
theorem ofTo_len (st : List (Int × Int)) (some : List Int) (k : Nat) : (ofTo st some k).length ≤ k := by
  induction k with
  | zero => simp [ofTo]
  | succ k ih => unfold ofTo; simp only [List.length_append]; split <;> simp <;> omega

section
variable {B : World} {F : HProp} {p : Nat} {T : Tab} {f : FuncId} {args : List Value} {R : Value → HProp → Prop} {n : Nat} {ops : Array Oper} {l : List Oper} {fr : Fr} {Q : Post}

theorem of_spec {s : Value} {xs : List Int} (hs : Rd B F 1 s xs.length (zs xs)) (hT : T.all.length ≤ 256) : Does Try.prog B 16 [.pointer (some ⟨p, 0, none⟩), s] (TabAt p T + F) fun r H' =>
    ∃ X, Ent H' (X + (TabAt p T + F)) ∧ X = Own 3 1 r (ofTo T.all xs T.all.length).length (zs (ofTo T.all xs T.all.length)) := by
  refine Does.tabNew fun ao cap fo cap2 hf => ?_
  refine fn_intro 28 Try.func16 rfl rfl rfl ?_
  refine walk ?_
  refine s_call rfl len_x rfl ?_
  rintro _ _ ⟨rfl, rfl⟩
  refine walk ?_
  refine wp_loopF (α := Nat × Option Addr × Nat) [4, 5, 8, 9, 10, 11, 12, 13, 14, 15, 16, 17, 18, 19, 20, 21, 22, 23, 24, 25, 26] (fun x => [(8, .int .i64 x.1), (4, .slice x.2.1 (ofTo T.all xs x.1).length x.2.2)])
    (fun x => Own 3 1 (.slice x.2.1 (ofTo T.all xs x.1).length x.2.2) (ofTo T.all xs x.1).length (zs (ofTo T.all xs x.1)) + (TabX p T ao cap fo cap2 + F)) (fun x => x.1 ≤ T.all.length) (fun x => T.all.length - x.1) (0, none, 0) agreed ?_ (Nat.zero_le _) ?_
  · show Ent _ (Own 3 1 (.slice none 0 0) 0 [] + _)
    rw [Own.nil, HProp.emp_add]; exact Ent.refl _
  rintro ⟨k, vo, vc⟩ g hk
  simp only at hk
  simp only [putAll]
  by_cases hlt : k < T.all.length
  · obtain ⟨b, o, rfl, hc, _⟩ := at_spec hf hlt
    have hc' := (hc.right F).left (Own 3 1 (.slice vo (ofTo T.all xs k).length vc) (ofTo T.all xs k).length (zs (ofTo T.all xs k)))
    have hofl := ofTo_len T.all xs k
    refine walk ?_
    refine s_call rfl (contains_spec (xs := xs) ?_) rfl ?_
    · exact hs.sub
    rintro _ _ ⟨rfl, rfl⟩
    have hstep : ofTo T.all xs (k + 1) = ofTo T.all xs k ++ (if T.all[k].1 ∈ xs then [(k : Int)] else []) := by
      show ofTo T.all xs k ++ _ = _
      simp [hlt]
    by_cases hm : T.all[k].1 ∈ xs
    · rw [decide_eq_true hm]
      rw [if_pos hm] at hstep
      refine walk ?_
      refine s_buildInts (cs := [.int _ _]) rfl rfl rfl rfl rfl ?_
      intro nb
      refine s_append (v := .slice _ _ _) rfl rfl (Rd.blk0 (m := 1) (e := 3) rfl (by simp [maxLen])) rfl rfl ?_ rfl ?_
      · simp only [maxLen]; omega
      intro v'
      refine WPL.shape ?_
      rintro ao' cap' rfl _ _ _
      refine walk ?_
      refine ⟨(k + 1, ao', cap'), asided, ?_, ?_, hlt, by simp only; omega⟩
      · rw [hstep]; simp only [List.length_append, List.length_cons, List.length_nil]; exact agreed
      · rw [hstep]
        simp only [List.length_append, List.length_cons, List.length_nil, zs, List.map_append, List.map_cons, List.map_nil]
        exact Ent.step (Ent.refl _) (Ent.drop (A := blk nb [.int .i64 k] 3) (Ent.refl _))
    · rw [decide_eq_false hm]
      rw [if_neg hm, List.append_nil] at hstep
      refine walk ?_
      refine ⟨(k + 1, vo, vc), asided, ?_, ?_, hlt, by simp only; omega⟩
      · rw [hstep]; exact agreed
      · rw [hstep]; exact Ent.refl _
  · have : T.all.length = k := by omega
    subst this
    refine walk ?_
    exact ret1 (v := .slice _ _ _) (.inr rfl) rfl rfl ⟨_, Ent.refl _, rfl⟩
theorem of_nil {s : Value} : Does Try.prog B 16 [.pointer none, s] F fun r H' => F = H' ∧ r = .slice none 0 0 := by
  refine fn_intro 28 Try.func16 rfl rfl rfl ?_
  refine walk ?_
  refine s_call rfl len_nil rfl ?_
  rintro _ _ ⟨rfl, rfl⟩
  refine walk ?_
  refine wp_loopF (α := Unit) [4, 5, 8, 9, 10, 11, 12, 13, 14, 15, 16, 17, 18, 19, 20, 21, 22, 23, 24, 25, 26] (fun x => [(8, .int .i64 0), (4, .slice none 0 0)]) (fun x => F) (fun x => True) (fun x => 0) () agreed (Ent.refl _) trivial ?_
  rintro _ g _
  simp only [putAll]
  refine walk ?_
  exact ret1 (v := .slice _ _ _) (.inr rfl) rfl rfl ⟨rfl, rfl⟩
theorem count_spec {s : Value} {xs : List Int} (hs : Rd B F 1 s xs.length (zs xs)) (hT : T.all.length ≤ 256) : Does Try.prog B 20 [.pointer (some ⟨p, 0, none⟩), s] (TabAt p T + F) fun r H' =>
    Ent H' (TabAt p T + F) ∧ r = .int .i64 (ofTo T.all xs T.all.length).length := by
  refine fn_intro 9 Try.func20 rfl rfl rfl ?_
  refine walk ?_
  refine s_call rfl (of_spec hs hT) rfl ?_
  rintro v H' ⟨X, he, rfl⟩
  refine WPL.ent he (WPL.shape ?_)
  rintro ao cap rfl _ _ _
  refine walk ?_
  exact ret1 (v := .int _ _) (.inr rfl) rfl rfl ⟨Ent.drop_left _ _, rfl⟩
theorem count_nil {s : Value} : Does Try.prog B 20 [.pointer none, s] F fun r H' => F = H' ∧ r = .int .i64 0 := by
  refine fn_intro 9 Try.func20 rfl rfl rfl ?_
  refine walk ?_
  refine s_call rfl of_nil rfl ?_
  rintro _ _ ⟨rfl, rfl⟩
  refine walk ?_
  exact ret1 (v := .int _ _) (.inr rfl) rfl rfl ⟨rfl, rfl⟩

/-- What a status may become, as a table of rows. -/
theorem become_spec : Does Try.prog B 37 [] F fun r H' => ∃ b1 b2 b3 b4 : Nat, r = .agg [.slice none 0 0, .slice (some ⟨b1, 0, none⟩) 1 1, .slice (some ⟨b2, 0, none⟩) 4 4, .slice (some ⟨b3, 0, none⟩) 1 1, .slice (some ⟨b4, 0, none⟩) 2 2].toArray ∧
    Ent H' (blk b1 (zs [2]) 3 + (blk b2 (zs [1, 3, 4, 0]) 3 + (blk b3 (zs [1]) 3 + (blk b4 (zs [2, 1]) 3 + F)))) := by
  refine fn_intro 6 Try.func37 rfl rfl rfl ?_
  refine walk ?_
  refine s_alloc rfl ?_
  intro b0
  refine walk ?_
  refine s_buildInts (cs := [.int _ _]) rfl rfl rfl rfl rfl ?_
  intro b1
  refine s_buildInts (cs := [.int _ _, .int _ _, .int _ _, .int _ _]) rfl rfl rfl rfl rfl ?_
  intro b2
  refine s_buildInts (cs := [.int _ _]) rfl rfl rfl rfl rfl ?_
  intro b3
  refine s_buildInts (cs := [.int _ _, .int _ _]) rfl rfl rfl rfl rfl ?_
  intro b4
  refine s_buildA (cs := [.slice none 0 0, .slice (some ⟨b1, 0, none⟩) 1 1, .slice (some ⟨b2, 0, none⟩) 4 4, .slice (some ⟨b3, 0, none⟩) 1 1, .slice (some ⟨b4, 0, none⟩) 2 2]) rfl rfl ?_
  refine s_storeA rfl (vs := [.slice none 0 0, .slice (some ⟨b1, 0, none⟩) 1 1, .slice (some ⟨b2, 0, none⟩) 4 4, .slice (some ⟨b3, 0, none⟩) 1 1, .slice (some ⟨b4, 0, none⟩) 2 2]) rfl rfl rfl (Nat.le_refl _) rfl ?_
  refine walk ?_
  refine retR1 (.inr rfl) rfl (rv_cellA rfl Cells.blk0 rfl) ⟨b1, b2, b3, b4, rfl, ?_⟩
  refine Ent.trans (Ent.drop_left _ _) (Ent.ac (by simp only [zs, List.map_cons, List.map_nil]; ac_rfl))
end
end Go.Proofs.Ytnfipmbmknlmpaa
