/- The library's functions on slices, at the kinds that occur here. No condition. -/
import Derived.Test.YtlhnmbajbhaaoaaIdInst
import Derived.Test.YtlhnmbajbhaaoaaSL3
namespace Go.Proofs.Ytlhnmbajbhaaoaa
open Go Go.SL
set_option linter.unusedSimpArgs false
set_option linter.unusedVariables false
set_option maxRecDepth 10000
attribute [local irreducible] WP WPL QSeq QBlk QRet Does Cell Cells Rd Mine Ent Aside


/-- The first place of x among xs, counted from k on. -/
def idxFrom (x : Int) : List Int → Int → Int
  | [], _ => -1
  | y :: ys, k => if x = y then k else idxFrom x ys (k + 1)
theorem idxFrom_cons (x y : Int) (ys : List Int) (k : Int) : idxFrom x (y :: ys) k = if x = y then k else idxFrom x ys (k + 1) := rfl
theorem idxFrom_mem (x : Int) : ∀ (xs : List Int) (k : Int), 0 ≤ k → (x ∈ xs → 0 ≤ idxFrom x xs k) ∧ (x ∉ xs → idxFrom x xs k = -1)
  | [], k, _ => by simp [idxFrom]
  | y :: ys, k, hk => by
    rw [idxFrom_cons]
    have ih := idxFrom_mem x ys (k + 1) (by omega)
    by_cases h : x = y
    · subst h; simp [hk]
    · rw [if_neg h]; simp [h]; exact ih

section
variable {B : World} {H F : HProp}

theorem index_spec {s : Value} {xs : List Int} {x : Int} (hs : Rd B H 1 s xs.length (zs xs)) :
    Does Try.prog B 98 [s, .int .i64 x] H (fun r H' => H = H' ∧ r = .int .i64 (idxFrom x xs 0)) := by
  unfold Rd at hs
  obtain ⟨ao, cap, rfl, hl, hm, hc⟩ := hs
  unfold maxLen at hm
  refine fn_intro 19 Try.func98 rfl rfl rfl ?_
  refine walk ?_
  refine wp_loopF (α := Nat) [4, 5, 8, 9, 10, 11, 12, 13, 14, 15, 16, 17, 18] (fun k => [(8, .int .i64 k)]) (fun _ => H) (fun k => k ≤ xs.length ∧ idxFrom x xs 0 = idxFrom x (xs.drop k) k) (fun k => xs.length - k) 0 agreed (Ent.refl _) ⟨Nat.zero_le _, rfl⟩ ?_
  rintro k g ⟨hk, hi⟩
  simp only [putAll]
  by_cases hlt : k < xs.length
  · obtain ⟨b, o, rfl, hcs⟩ := Rd.addr hl hc hlt
    have hcell := hcs.cell (zs_get xs k hlt)
    rw [List.drop_eq_getElem_cons hlt, idxFrom_cons] at hi
    by_cases hx : x = xs[k]
    · rw [if_pos hx] at hi
      refine walk ?_
      exact ret1 (v := .int _ _) (.inr rfl) rfl rfl ⟨rfl, by rw [hi]⟩
    · rw [if_neg hx] at hi
      refine walk ?_
      exact ⟨k + 1, asided, agreed, Ent.refl _, ⟨hlt, hi⟩, by omega⟩
  · have : xs.length = k := by omega
    subst this
    simp [idxFrom] at hi
    refine walk ?_
    exact ret1 (v := .int _ _) (.inr rfl) rfl rfl ⟨rfl, by rw [hi]⟩

theorem contains_spec {s : Value} {xs : List Int} {x : Int} (hs : Rd B H 1 s xs.length (zs xs)) :
    Does Try.prog B 90 [s, .int .i64 x] H (fun r H' => H = H' ∧ r = .bool (decide (x ∈ xs))) := by
  have hm := idxFrom_mem x xs 0 (Int.le_refl _)
  refine fn_intro 9 Try.func90 rfl rfl rfl ?_
  refine walk ?_
  refine s_call rfl (index_spec hs) rfl ?_
  rintro _ _ ⟨rfl, rfl⟩
  by_cases hx : x ∈ xs
  · have h := hm.1 hx
    refine walk ?_
    exact ret1 (v := .bool _) (.inr rfl) rfl rfl ⟨rfl, by simp [hx]⟩
  · have h := hm.2 hx
    refine walk ?_
    exact ret1 (v := .bool _) (.inr rfl) rfl rfl ⟨rfl, by simp [hx]⟩

/-- A copy of a row of numbers. -/
theorem cloneInts_spec {s : Value} {m : Nat} {cs : List Value} (hs : Rd B H 1 s m cs) (h1 : cs.all Value.oneCell' = true) (hb : m ≤ 1000000000000) :
    Does Try.prog B 35 [s] H (fun r H' => Ent H' (Mine 3 1 r m cs + H)) := by
  have hs' := hs
  unfold Rd at hs
  obtain ⟨ao, cap, rfl, hl, hm, hc⟩ := hs
  refine fn_intro 8 Try.func35 rfl rfl rfl ?_
  cases ao with
  | none =>
    have : cs = [] := by
      rcases hc with h | ⟨b, o, h, _⟩
      · exact h
      · cases h
    subst this
    have : m = 0 := by simp at hl; exact hl.symm
    subst this
    refine walk ?_
    refine s_eqnilS rfl rfl (b := true) rfl rfl ?_
    refine walk ?_
    refine ret1 (v := .slice none 0 0) (.inr rfl) rfl rfl ?_
    rw [Mine.nil, HProp.emp_add]; exact Ent.refl _
  | some a =>
    refine walk ?_
    refine s_eqnilS rfl rfl (b := false) rfl rfl ?_
    refine walk ?_
    refine s_buildInts (cs := []) rfl rfl rfl rfl rfl ?_
    intro b
    refine walk ?_
    refine WPL.ent ((Mine.of_blk (sz := 1) (n := 0) (cap := 0) (cs := []) (spare := []) rfl rfl (Nat.le_refl _) (by simp [maxLen]) rfl).frame_right _) ?_
    refine s_append (v := .slice _ _ _) rfl rfl hs' h1 rfl ?_ rfl ?_
    · simp only [maxLen]; omega
    intro v'
    simp only [Nat.zero_add, List.nil_append]
    refine walk ?_
    exact ret1 (.inr rfl) rfl rfl (Ent.refl _)
end
end Go.Proofs.Ytlhnmbajbhaaoaa
