/- The table: what makes it, and turns it. No condition. -/
import Derived.Test.YtlhnmbajbhaaoaaIdTab3
namespace Go.Proofs.Ytlhnmbajbhaaoaa
open Go Go.SL
set_option linter.unusedSimpArgs false
set_option linter.unusedVariables false
set_option maxRecDepth 10000
attribute [local irreducible] WP WPL QSeq QBlk QRet Does Cell Cells Rd Mine Ent Aside RV

def mayRows (a : Int) : List Int := if a = 1 then [2] else if a = 2 then [1, 3, 4, 0] else if a = 3 then [1] else if a = 4 then [2, 1] else []
/-- May a status become another one? -/
def may (was next : Int) : Bool := decide (next ∈ mayRows was)

/-- A new table. -/
def Tab.new (m : Nat) : Tab := { all := List.replicate m (0, 0), row := (List.range m).map fun (i : Nat) => (i : Int) }
def newFree (m k : Nat) : List Int := (List.range k).map fun (i : Nat) => (m : Int) - 1 - (i : Int)
theorem newFree_all (m : Nat) : newFree m m = (Tab.new m).row.reverse := by
  apply List.ext_getElem
  · simp [newFree, Tab.new]
  · intro i h1 h2
    have hi : i < m := by simpa [newFree] using h1
    simp only [newFree, Tab.new, List.getElem_map, List.getElem_range, List.getElem_reverse, List.length_map, List.length_range]
    omega
theorem newFree_succ (m k : Nat) : newFree m (k + 1) = newFree m k ++ [(m : Int) - 1 - k] := by simp [newFree, List.range_succ]
theorem newFree_len (m k : Nat) : (newFree m k).length = k := by simp [newFree]
theorem zeros_goros (m : Nat) : (List.replicate m [Value.int .i64 0, Value.int .i64 0]).flatten = goros (Tab.new m).all := by
  simp only [Tab.new, goros]
  induction m with
  | zero => rfl
  | succ m ih => simp only [List.replicate_succ, List.flatten_cons, List.flatMap_cons, ih]

section
variable {B : World} {F : HProp} {p : Nat} {T : Tab}

theorem may_spec {a x : Int} (ha : 0 ≤ a ∧ a ≤ 4) : Does Try.prog B 82 [.agg [.int .i64 a].toArray, .int .i64 x] F fun r H' => Ent H' F ∧ r = .bool (may a x) := by
  refine fn_intro 11 Try.func82 rfl rfl rfl ?_
  refine walk ?_
  refine s_box rfl rfl rfl ?_
  intro b
  refine walk ?_
  (refine wp_draw [0, 5] (.look 1 (.look 2 (.look 4 (.act 0 (.look 3 (.act 5 (.look 6 .nil) .stop)) .stop)))) (by kernel_rfl) ?_; (apply dw_pure; (· exact rfl); (· exact rfl); (· (intro G; exact looked))); (apply dw_look; (· exact rfl); (· exact rfl); (· (exact looked))); (apply dw_pure; (· exact rfl); (· exact rfl); (· (intro G; exact looked))); skip)
  refine dw_do rfl rfl ?_ dw_stop
  refine s_call rfl become_spec rfl ?_
  rintro _ H' ⟨b1, b2, b3, b4, rfl, he⟩
  refine WPL.ent he ?_
  refine wpl_nil (qone ⟨(by (refine st_again ?_ ?_; (· exact looked)); exact st_nil), ?_⟩)
  obtain ⟨k, rfl⟩ := Int.eq_ofNat_of_zero_le ha.1
  have hk : k < 5 := by omega
  -- the row of the status
  obtain ⟨v, hv, hrd⟩ : ∃ v : Value, [Value.slice none 0 0, .slice (some ⟨b1, 0, none⟩) 1 1, .slice (some ⟨b2, 0, none⟩) 4 4, .slice (some ⟨b3, 0, none⟩) 1 1, .slice (some ⟨b4, 0, none⟩) 2 2][k]? = some v ∧
      Rd B (blk b1 (zs [2]) 3 + (blk b2 (zs [1, 3, 4, 0]) 3 + (blk b3 (zs [1]) 3 + (blk b4 (zs [2, 1]) 3 + (blk b [.int .i64 k] 88 + F))))) 1 v (mayRows k).length (zs (mayRows k)) := by
    match k, hk with
    | 0, _ => exact ⟨_, rfl, Rd.nil⟩
    | 1, _ => exact ⟨_, rfl, Rd.blk0 rfl (by simp [maxLen, mayRows])⟩
    | 2, _ => exact ⟨_, rfl, Rd.blk0 rfl (by simp [maxLen, mayRows])⟩
    | 3, _ => exact ⟨_, rfl, Rd.blk0 rfl (by simp [maxLen, mayRows])⟩
    | 4, _ => exact ⟨_, rfl, Rd.blk0 rfl (by simp [maxLen, mayRows])⟩
  apply dw_pure
  · exact rfl
  · exact rfl
  · intro G
    refine s_indexV rfl rfl rfl hk hv rfl ?_
    refine wpl_nil ?_
    exact qone_q
  refine dw_do rfl rfl ?_ dw_stop
  refine s_call rfl (contains_spec hrd) rfl ?_
  rintro _ _ ⟨rfl, rfl⟩
  refine wpl_nil (qone ⟨(by refine st_past (by kernel_rfl) ?_; exact st_nil), ?_⟩)
  ((apply dw_pure; (· exact rfl); (· exact rfl); (· (intro G; exact looked))); refine dw_nil ?_; skip)
  refine walk ?_
  refine ret1 (v := .bool _) (.inr rfl) rfl rfl ⟨?_, rfl⟩
  exact (Ent.drop_left _ _).trans ((Ent.drop_left _ _).trans ((Ent.drop_left _ _).trans ((Ent.drop_left _ _).trans (Ent.drop_left _ _))))

theorem new_spec {n : Int} {m : Nat} (hm : max 0 (min n 256) = (m : Int)) : Does Try.prog B 22 [.int .i64 n] F fun r H' => ∃ q, r = .pointer (some ⟨q, 0, none⟩) ∧ Ent H' (TabAt q (Tab.new m) + F) := by
  have hm2 : m ≤ 256 := by omega
  refine fn_intro 38 Try.func22 rfl rfl rfl ?_
  refine walk ?_
  refine s_min2 rfl rfl rfl rfl ?_
  refine s_max2 rfl rfl hm rfl ?_
  refine s_makeSlice rfl rfl (Nat.le_refl _) ?_ rfl ?_
  · simp only [maxLen]; omega
  intro ba
  rw [zeros_goros]
  refine s_build (cs := [.slice (some ⟨ba, 0, none⟩) m m, .slice none 0 0]) rfl rfl ?_
  refine s_box rfl rfl rfl ?_
  intro q
  refine walk ?_
  refine wp_loopF (α := Nat × Option Addr × Nat) [4, 16, 17, 18, 19, 20, 21, 22, 23, 24, 25, 26, 27, 28, 29, 30, 31, 32, 33, 34, 35, 36] (fun x => [(16, .int .i64 x.1)])
    (fun x => blk q [.slice (some ⟨ba, 0, none⟩) m m, .slice x.2.1 x.1 x.2.2] 76 + (Mine 3 1 (.slice x.2.1 x.1 x.2.2) x.1 (zs (newFree m x.1)) + (blk ba (goros (Tab.new m).all) 90 + F))) (fun x => x.1 ≤ m) (fun x => m - x.1) (0, none, 0) agreed ?_ (Nat.zero_le _) ?_
  · show Ent _ (blk q [.slice (some ⟨ba, 0, none⟩) m m, .slice none 0 0] 76 + (Mine 3 1 (.slice none 0 0) 0 [] + (blk ba (goros (Tab.new m).all) 90 + F)))
    rw [Mine.nil, HProp.emp_add]; exact Ent.refl _
  rintro ⟨k, vo, vc⟩ g hk
  simp only at hk
  simp only [putAll]
  by_cases hlt : k < m
  · refine walk ?_
    (refine wp_draw [13, 14, 17] (.look 0 (.look 1 (.look 2 (.look 3 (.look 4 (.look 5 (.look 6 (.look 7 (.look 8 (.look 9 (.look 10 (.look 11 (.look 12 (.act 13 (.act 14 (.look 15 (.look 16 (.act 17 .nil .stop))) .stop) .stop)))))))))))))) (by kernel_rfl) ?_; (apply dw_pure; (· exact rfl); (· exact rfl); (· (intro G; exact looked))); (apply dw_pure; (· exact rfl); (· exact rfl); (· (intro G; exact looked))); (apply dw_pure; (· exact rfl); (· exact rfl); (· (intro G; exact looked))); (apply dw_pure; (· exact rfl); (· exact rfl); (· (intro G; exact looked))); (apply dw_look; (· exact rfl); (· exact rfl); (· (exact looked))); (apply dw_pure; (· exact rfl); (· exact rfl); (· (intro G; exact looked))); (apply dw_pure; (· exact rfl); (· exact rfl); (· (intro G; exact looked))); (apply dw_pure; (· exact rfl); (· exact rfl); (· (intro G; exact looked))); (apply dw_look; (· exact rfl); (· exact rfl); (· (exact looked))); (apply dw_pure; (· exact rfl); (· exact rfl); (· (intro G; exact looked))); (apply dw_pure; (· exact rfl); (· exact rfl); (· (intro G; exact looked))); (apply dw_pure; (· exact rfl); (· exact rfl); (· (intro G; exact looked))); (apply dw_pure; (· exact rfl); (· exact rfl); (· (intro G; exact looked))); skip)
    refine dw_do rfl rfl ?_ dw_stop
    refine s_buildInts (cs := [.int _ _]) rfl rfl rfl rfl rfl ?_
    intro nb
    refine wpl_nil (qone ⟨(by refine st_past (by kernel_rfl) ?_; (refine st_again ?_ ?_; (· exact looked)); exact st_nil), ?_⟩)
    refine dw_do rfl rfl ?_ dw_stop
    refine s_append (v := .slice _ _ _) rfl rfl (Rd.blk0 (m := 1) (e := 3) rfl (by simp [maxLen])) rfl rfl ?_ rfl ?_
    · simp only [maxLen]; omega
    intro v'
    refine WPL.shape ?_
    rintro ao' cap' rfl _ _ _
    refine wpl_nil (qone ⟨(by refine st_past (by kernel_rfl) ?_; refine st_past (by kernel_rfl) ?_; exact st_nil), ?_⟩)
    ((apply dw_pure; (· exact rfl); (· exact rfl); (· (intro G; exact looked))); (apply dw_pure; (· exact rfl); (· exact rfl); (· (intro G; exact looked))); skip)
    refine dw_do0 rfl rfl ?_ dw_stop
    refine s_store (v := .slice _ _ _) (cs' := [_, _]) rfl rfl rfl (by simp) rfl ?_
    refine wpl_nil (qone0 ⟨(by refine st_past (by kernel_rfl) ?_; refine st_past (by kernel_rfl) ?_; exact st_nil), ?_⟩)
    (refine dw_nil ?_; skip)
    refine walk ?_
    refine ⟨(k + 1, ao', cap'), asided, agreed, ?_, hlt, by simp only; omega⟩
    rw [newFree_succ]
    simp only [zs, List.map_append, List.map_cons, List.map_nil]
    exact Ent.step (A := blk q [.slice (some ⟨ba, 0, none⟩) m m, .slice ao' (k + 1) cap'] 76) (Ent.refl _) (Ent.step (Ent.refl _) (Ent.drop (A := blk nb [.int .i64 (m - 1 - k)] 3) (Ent.refl _)))
  · have : m = k := by omega
    subst this
    refine walk ?_
    refine ret1 (v := .pointer _) (.inr rfl) rfl rfl ⟨q, rfl, ?_⟩
    have hl1 : (Tab.new m).all.length = m := by simp [Tab.new]
    have hl2 : (Tab.new m).row.length = m := by simp [Tab.new]
    refine Ent.trans ?_ (tab_close (ao := some ⟨ba, 0, none⟩) (cap := m) (fo := vo) (cap2 := vc))
    unfold TabX
    rw [hl1, hl2, newFree_all]
    refine Ent.trans ?_ (Ent.ac (HProp.add_assoc _ _ _).symm)
    refine Ent.step (A := blk q [.slice (some ⟨ba, 0, none⟩) m m, .slice vo m vc] 76) (Ent.refl _) ?_
    refine Ent.trans ?_ (Ent.ac (HProp.add_assoc _ _ _).symm)
    refine Ent.step (A := blk ba (goros (Tab.new m).all) 90) (Mine.of_blk (spare := []) (by simp) (by rw [goros_length, hl1]) (Nat.le_refl _) (by simp [maxLen]; omega) (by rw [goros_length, hl1])) (Ent.refl _)
end
end Go.Proofs.Ytlhnmbajbhaaoaa
