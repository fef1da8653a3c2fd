/- The reference's table: who has a status. No condition. -/
import Derived.Test.YtnfipmbmknlmpaaTRef4
namespace Go.Proofs.Ytnfipmbmknlmpaa
open Go Go.SL
set_option linter.unusedSimpArgs false
set_option linter.unusedVariables false
set_option maxRecDepth 10000
attribute [local irreducible] WP WPL QSeq QBlk QRet Does Cell Cells Rd Own Ent Aside RV TabX TabAt

section
variable {B : World} {F H : HProp} {p : Nat} {T : Tab}
def inTo (x : Int) (xs : List Int) (i : Nat) : Bool := (xs.take i).any fun y => decide (y = x)
theorem inTo_succ {x : Int} {xs : List Int} {i : Nat} (h : i < xs.length) : inTo x xs (i + 1) = (inTo x xs i || decide (xs[i] = x)) := by
  unfold inTo
  rw [← List.take_append_getElem h, List.any_append]
  simp only [List.any_cons, List.any_nil, Bool.or_false]
theorem inTo_all (x : Int) (xs : List Int) : inTo x xs xs.length = decide (x ∈ xs) := by
  unfold inTo
  rw [List.take_length]
  by_cases h : x ∈ xs
  · rw [decide_eq_true h]; exact List.any_eq_true.2 ⟨x, h, by simp⟩
  · rw [decide_eq_false h]; exact List.any_eq_false.2 fun y hy => by simp only [decide_eq_true_eq]; intro e; exact h (e ▸ hy)
theorem refOf_spec {r s : Value} {xs : List Int} (hr : RefV B H r T) (hs : Rd B H 1 s xs.length (zs xs)) (h1 : T.all.length ≤ 1000000) :
    Does Try.prog B 15 [r, s] H fun v H' => ∃ X, Ent H' (X + H) ∧ X = Own 3 1 v (ofTo T.all xs T.all.length).length (zs (ofTo T.all xs T.all.length)) := by
  obtain ⟨s1, s2, s3, rfl, r1, r2, r3⟩ := hr
  have r1' := r1
  unfold Rd at r1 r2 r3 hs
  obtain ⟨o1, k1, rfl, l1, _, a1⟩ := r1
  obtain ⟨o2, k2, rfl, _⟩ := r2
  obtain ⟨o3, k3, rfl, _⟩ := r3
  obtain ⟨os, ks, rfl, ls, ms, aS⟩ := hs
  unfold maxLen at ms
  have t1 : T.st.length = T.all.length := by simp [Tab.st]
  refine fn_intro 41 Try.func15 rfl rfl rfl ?_
  refine walk ?_
  refine s_box rfl rfl rfl ?_
  intro b2
  refine walk ?_
  refine wp_loopF (α := Nat × Option Addr × Nat) [5, 6, 7, 8, 9, 10, 11, 12, 13, 14, 15, 16, 17, 18, 19, 20, 21, 22, 23, 24, 25, 26, 27, 28, 29, 30, 31, 32, 33, 34, 35, 36, 37, 38, 39] (fun x => [(6, .int .i64 x.1), (5, .slice x.2.1 (ofTo T.all xs x.1).length x.2.2)])
    (fun x => Own 3 1 (.slice x.2.1 (ofTo T.all xs x.1).length x.2.2) (ofTo T.all xs x.1).length (zs (ofTo T.all xs x.1)) + (blk b2 [.slice o1 T.all.length k1, .slice o2 T.all.length k2, .slice o3 T.row.length k3] 28 + H)) (fun x => x.1 ≤ T.all.length) (fun x => T.all.length - x.1) (0, none, 0) agreed ?_ (Nat.zero_le _) ?_
  · show Ent _ (Own 3 1 (.slice none 0 0) 0 [] + _)
    rw [Own.nil, HProp.emp_add]; exact Ent.refl _
  rintro ⟨k, vo, vc⟩ g hk
  simp only at hk
  simp only [putAll]
  by_cases hlt : k < T.all.length
  · have hofl := ofTo_len T.all xs k
    obtain ⟨ba, oa, rfl, hcs⟩ := Rd.addr l1 a1 hlt
    have hcell := hcs.cell (show (zs T.st)[k]? = some (.int .i64 T.all[k].1) by simp [zs, Tab.st, hlt])
    have hc1 := ((hcell.left (blk b2 [.slice (some ⟨ba, oa, none⟩) T.all.length k1, .slice o2 T.all.length k2, .slice o3 T.row.length k3] 28)).left (Own 3 1 (.slice vo (ofTo T.all xs k).length vc) (ofTo T.all xs k).length (zs (ofTo T.all xs k))))
    refine walk ?_
    refine wp_loopF (α := Nat) [7, 8, 16, 17, 18, 19, 20, 21, 22, 23, 24, 25, 26, 27, 28, 29, 30, 31, 32, 33, 34] (fun i => [(7, .bool (inTo T.all[k].1 xs i)), (8, .int .i64 i)])
      (fun _ => Own 3 1 (.slice vo (ofTo T.all xs k).length vc) (ofTo T.all xs k).length (zs (ofTo T.all xs k)) + (blk b2 [.slice (some ⟨ba, oa, none⟩) T.all.length k1, .slice o2 T.all.length k2, .slice o3 T.row.length k3] 28 + H)) (fun i => i ≤ xs.length) (fun i => xs.length - i) 0 agreed (Ent.refl _) (Nat.zero_le _) ?_
    rintro i g2 hi
    simp only [putAll]
    by_cases hli : i < xs.length
    · obtain ⟨bs, os', rfl, hcs2⟩ := Rd.addr ls aS hli
      have hcell2 := hcs2.cell (zs_get xs i hli)
      have hc2 := ((hcell2.left (blk b2 [.slice (some ⟨ba, oa, none⟩) T.all.length k1, .slice o2 T.all.length k2, .slice o3 T.row.length k3] 28)).left (Own 3 1 (.slice vo (ofTo T.all xs k).length vc) (ofTo T.all xs k).length (zs (ofTo T.all xs k))))
      have hnext := inTo_succ (x := T.all[k].1) hli
      cases hb : inTo T.all[k].1 xs i with
      | true =>
        rw [hb] at hnext
        refine walk ?_
        (refine wp_draw [] (.look 0 (.look 1 (.look 2 (.look 3 (.look 4 (.look 5 (.look 6 (.look 7 (.look 8 (.look 9 (.look 10 (.look 11 (.look 12 (.look 13 .nil)))))))))))))) (by kernel_rfl) ?_; (apply dw_pure; (· exact rfl); (· exact rfl); (· (intro G; exact looked))); (apply dw_pure; (· exact rfl); (· exact rfl); (· (intro G; exact looked))); (apply dw_pure; (· exact rfl); (· exact rfl); (· (intro G; exact looked))); (apply dw_pure; (· exact rfl); (· exact rfl); (· (intro G; exact looked))); (apply dw_pure; (· exact rfl); (· exact rfl); (· (intro G; exact looked))); (apply dw_look; (· exact rfl); (· exact rfl); (· exact looked)); (apply dw_pure; (· exact rfl); (· exact rfl); (· (intro G; exact looked))); (apply dw_look; (· exact rfl); (· exact rfl); (· exact looked)); (apply dw_pure; (· exact rfl); (· exact rfl); (· (intro G; exact looked))); (apply dw_pure; (· exact rfl); (· exact rfl); (· (intro G; exact looked))); (apply dw_look; (· exact rfl); (· exact rfl); (· exact looked)); (apply dw_pure; (· exact rfl); (· exact rfl); (· (intro G; exact looked))); (apply dw_pure; (· exact rfl); (· exact rfl); (· (intro G; exact looked))); (apply dw_pure; (· exact rfl); (· exact rfl); (· (intro G; exact looked))); refine dw_nil ?_)
        refine walk ?_
        exact ⟨i + 1, asided, by rw [hnext]; exact agreed, Ent.refl _, hli, by omega⟩
      | false =>
        rw [hb] at hnext
        by_cases hx : xs[i] = T.all[k].1
        · rw [decide_eq_true hx] at hnext
          refine walk ?_
          (refine wp_draw [] (.look 0 (.look 1 (.look 2 (.look 3 (.look 4 (.look 5 (.look 6 (.look 7 (.look 8 (.look 9 (.look 10 (.look 11 (.look 12 (.look 13 .nil)))))))))))))) (by kernel_rfl) ?_; (apply dw_pure; (· exact rfl); (· exact rfl); (· (intro G; exact looked))); (apply dw_pure; (· exact rfl); (· exact rfl); (· (intro G; exact looked))); (apply dw_pure; (· exact rfl); (· exact rfl); (· (intro G; exact looked))); (apply dw_pure; (· exact rfl); (· exact rfl); (· (intro G; exact looked))); (apply dw_pure; (· exact rfl); (· exact rfl); (· (intro G; exact looked))); (apply dw_look; (· exact rfl); (· exact rfl); (· exact looked)); (apply dw_pure; (· exact rfl); (· exact rfl); (· (intro G; exact looked))); (apply dw_look; (· exact rfl); (· exact rfl); (· exact looked)); (apply dw_pure; (· exact rfl); (· exact rfl); (· (intro G; exact looked))); (apply dw_pure; (· exact rfl); (· exact rfl); (· (intro G; exact looked))); (apply dw_look; (· exact rfl); (· exact rfl); (· exact looked)); (apply dw_pure; (· exact rfl); (· exact rfl); (· (intro G; exact looked))); (apply dw_pure; (· exact rfl); (· exact rfl); (· (intro G; exact looked))); (apply dw_pure; (· exact rfl); (· exact rfl); (· (intro G; exact looked))); refine dw_nil ?_)
          refine walk ?_
          exact ⟨i + 1, asided, by rw [hnext]; exact agreed, Ent.refl _, hli, by omega⟩
        · rw [decide_eq_false hx] at hnext
          refine walk ?_
          (refine wp_draw [] (.look 0 (.look 1 (.look 2 (.look 3 (.look 4 (.look 5 (.look 6 (.look 7 (.look 8 (.look 9 (.look 10 (.look 11 (.look 12 (.look 13 .nil)))))))))))))) (by kernel_rfl) ?_; (apply dw_pure; (· exact rfl); (· exact rfl); (· (intro G; exact looked))); (apply dw_pure; (· exact rfl); (· exact rfl); (· (intro G; exact looked))); (apply dw_pure; (· exact rfl); (· exact rfl); (· (intro G; exact looked))); (apply dw_pure; (· exact rfl); (· exact rfl); (· (intro G; exact looked))); (apply dw_pure; (· exact rfl); (· exact rfl); (· (intro G; exact looked))); (apply dw_look; (· exact rfl); (· exact rfl); (· exact looked)); (apply dw_pure; (· exact rfl); (· exact rfl); (· (intro G; exact looked))); (apply dw_look; (· exact rfl); (· exact rfl); (· exact looked)); (apply dw_pure; (· exact rfl); (· exact rfl); (· (intro G; exact looked))); (apply dw_pure; (· exact rfl); (· exact rfl); (· (intro G; exact looked))); (apply dw_look; (· exact rfl); (· exact rfl); (· exact looked)); (apply dw_pure; (· exact rfl); (· exact rfl); (· (intro G; exact looked))); (apply dw_pure; (· exact rfl); (· exact rfl); (· (intro G; exact looked))); (apply dw_pure; (· exact rfl); (· exact rfl); (· (intro G; exact looked))); refine dw_nil ?_)
          refine walk ?_
          exact ⟨i + 1, asided, by rw [hnext]; exact agreed, Ent.refl _, hli, by omega⟩
    · have hxl : i = xs.length := by omega
      subst hxl
      have hstep : ofTo T.all xs (k + 1) = ofTo T.all xs k ++ (if T.all[k].1 ∈ xs then [(k : Int)] else []) := by
        show ofTo T.all xs k ++ _ = _
        simp [hlt]
      rw [inTo_all]
      by_cases hmem : T.all[k].1 ∈ xs
      · rw [decide_eq_true hmem]
        rw [if_pos hmem] at hstep
        refine walk ?_
        refine s_buildInts (cs := [.int _ _]) rfl rfl rfl rfl rfl ?_
        intro nb
        refine s_append (v := .slice _ _ _) rfl rfl (Rd.blk0 (m := 1) (e := 3) rfl (by simp [maxLen])) rfl rfl ?_ rfl ?_
        · simp only [maxLen]; omega
        intro v'
        refine WPL.shape ?_
        rintro ao' cap' rfl _ _ _
        refine walk ?_
        refine ⟨(k + 1, ao', cap'), asided, ?_, ?_, hlt, by simp only; omega⟩
        · rw [hstep]; simp only [List.length_append, List.length_cons, List.length_nil]; exact agreed
        · rw [hstep]
          simp only [List.length_append, List.length_cons, List.length_nil, zs, List.map_append, List.map_cons, List.map_nil]
          exact Ent.step (Ent.refl _) (Ent.drop (A := blk nb [.int .i64 k] 3) (Ent.refl _))
      · rw [decide_eq_false hmem]
        rw [if_neg hmem, List.append_nil] at hstep
        refine walk ?_
        refine ⟨(k + 1, vo, vc), asided, ?_, ?_, hlt, by simp only; omega⟩
        · rw [hstep]; exact agreed
        · rw [hstep]; exact Ent.refl _
  · have : T.all.length = k := by omega
    subst this
    refine walk ?_
    exact ret1 (v := .slice _ _ _) (.inr rfl) rfl rfl ⟨_, Ent.step (A := Own 3 1 (.slice vo (ofTo T.all xs T.all.length).length vc) (ofTo T.all xs T.all.length).length (zs (ofTo T.all xs T.all.length))) (Ent.refl _) InH.ent, rfl⟩
end
end Go.Proofs.Ytnfipmbmknlmpaa
