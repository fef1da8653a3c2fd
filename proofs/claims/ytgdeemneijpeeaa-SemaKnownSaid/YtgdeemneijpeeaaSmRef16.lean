/- The document's semaphores. No condition. -/
import Derived.Test.YtgdeemneijpeeaaSmRef14
import Derived.Test.YtgdeemneijpeeaaSmSem4
namespace Go.Proofs.Ytgdeemneijpeeaa
open Go Go.SL
set_option linter.unusedSimpArgs false
set_option linter.unusedVariables false
set_option maxRecDepth 10000
set_option maxHeartbeats 1000000
attribute [local irreducible] WP WPL QSeq QBlk QRet Does Cell Cells Rd Mine Ent Aside RV Yield
/-- A semaphore of the document: who waits, the count; and where the row lies. -/
abbrev PairT := (List Int × Int) × (Option Addr × Nat)
def cellP (t : PairT) : List Value := [.int .i64 t.1.2, .slice t.2.1 t.1.1.length t.2.2]
def cellsP : List PairT → List Value
  | [] => []
  | t :: T => cellP t ++ cellsP T
theorem cellsP_len (T : List PairT) : (cellsP T).length = T.length * 2 := by
  induction T with
  | nil => rfl
  | cons t T ih => simp only [cellsP, List.length_append, ih, List.length_cons, cellP]; simp; omega
theorem cellsP_at : ∀ (T : List PairT) (i : Nat) (t : PairT), T[i]? = some t → (cellsP T)[i * 2]? = some (.int .i64 t.1.2) ∧ (cellsP T)[i * 2 + 1]? = some (.slice t.2.1 t.1.1.length t.2.2)
  | [], i, t, h => by simp at h
  | a :: T, 0, t, h => by simp at h; subst h; exact ⟨rfl, rfl⟩
  | a :: T, i + 1, t, h => by
    have ih := cellsP_at T i t (by simpa using h)
    have e : (i + 1) * 2 = i * 2 + 2 := by omega
    rw [e]
    exact ih
def RefS (B : World) (G : HProp) (r : Value) (S : SemS) : Prop :=
  ∃ (T : List PairT) (ao : Option Addr) (cap : Nat), T.map (·.1) = S ∧ r = .slice ao S.length cap ∧ S.length ≤ cap ∧ Rd B G 2 r S.length (cellsP T) ∧
    ∀ t ∈ T, t.1.1.length ≤ t.2.2 ∧ Rd B G 1 (.slice t.2.1 t.1.1.length t.2.2) t.1.1.length (zs t.1.1)
theorem RefS.ent {B : World} {G H : HProp} {r : Value} {S : SemS} (h : RefS B G r S) (e : Ent H G) : RefS B H r S := by
  obtain ⟨T, ao, cap, h1, h2, h3, h4, h5⟩ := h
  exact ⟨T, ao, cap, h1, h2, h3, h4.ent e, fun t ht => ⟨(h5 t ht).1, (h5 t ht).2.ent e⟩⟩
section
variable {B : World} {F H G : HProp} {S : SemS} {g k c : Int} {r : Value}
theorem where_first {i : Nat} (hi : i < S.length) (hn : ∀ j, j < i → ¬ InS S j g) (h : InS S i g) : whereOf S g = some i := by
  obtain ⟨l, c, hs, hg⟩ := h
  refine List.findIdx?_eq_some_iff_getElem.2 ⟨hi, ?_, fun j hj => ?_⟩
  · rw [List.getElem?_eq_getElem hi] at hs
    cases hs' : S[i] with
    | mk a b => rw [hs'] at hs; cases hs; simpa using hg
  · simp only [decide_eq_true_eq]
    exact fun hg => hn j hj ⟨S[j].1, S[j].2, List.getElem?_eq_getElem (by omega), hg⟩
theorem where16 (hr : RefS B H r S) (hS : S.length ≤ 1000000) : Does Try.prog B 36 [r, .int .i64 g] H fun v H' => H' = H ∧ v = .int .i64 (match whereOf S g with | some i => ((i : Nat) : Int) | none => -1) := by
  obtain ⟨T, ao, cap, hT, rfl, hcap, hrd, hrow⟩ := hr
  have hTl : T.length = S.length := by rw [← hT, List.length_map]
  unfold Rd at hrd
  obtain ⟨_, _, e_, hl, hm, ha⟩ := hrd
  cases e_
  refine fn_intro 21 Try.func36 rfl rfl rfl ?_
  refine walk ?_
  refine wp_loopR (α := Nat) [4, 5, 6, 7, 8, 9, 10, 11, 12, 13, 14, 15, 16, 17, 18, 19, 20] (fun i => [(5, .int .i64 (i : Nat))]) (fun i => i ≤ S.length ∧ ∀ j, j < i → ¬ InS S j g) (fun i => S.length - i) 0 agreed ⟨Nat.zero_le _, fun j hj => absurd hj (by omega)⟩ ?_
  rintro i f ⟨hi, hn⟩
  simp only [putAll]
  by_cases hlt : i < S.length
  · obtain ⟨bl, ol, rfl, hcl⟩ : ∃ b o, ao = some ⟨b, o, none⟩ ∧ Cells B H b o (cellsP T) := by
      rcases ha with h | h
      · rw [h] at hl; simp at hl; omega
      · exact h
    obtain ⟨t, ht⟩ : ∃ t, T[i]? = some t := ⟨_, List.getElem?_eq_getElem (by omega)⟩
    have hs : S[i]? = some t.1 := by rw [← hT, List.getElem?_map, ht]; rfl
    obtain ⟨_, hrd⟩ := hrow t (List.mem_of_getElem? ht)
    have hc1 : Cell B H bl (ol + i * 2 + 1) (.slice t.2.1 t.1.1.length t.2.2) := hcl.cell (j := i * 2 + 1) (cellsP_at T i t ht).2
    refine walk ?_
    refine s_call rfl (ahead14 (g := g) hrd) rfl ?_
    rintro _ _ ⟨e_, rfl⟩
    obtain rfl := e_.symm
    refine walk ?_
    by_cases hg : g ∈ t.1.1
    · have hin : InS S i g := ⟨t.1.1, t.1.2, hs, hg⟩
      have hp : 0 ≤ posI g t.1.1 := by
        unfold posI
        split
        · omega
        · rename_i h
          rw [List.findIdx?_eq_none_iff] at h
          have := h g hg
          simp at this
      refine walk ?_
      (first | refine ret1 (v := .int _ _) (.inr rfl) rfl rfl ?_ | refine ret1  (.inr rfl) rfl rfl ?_ | refine ret1 (v := .int _ _) (.inl rfl) rfl rfl ?_ | refine ret1  (.inl rfl) rfl rfl ?_)
      exact ⟨rfl, by rw [where_first hlt hn hin]⟩
    · have hin : ¬ InS S i g := fun ⟨l, c, h1, h2⟩ => by rw [hs] at h1; have e := Option.some.inj h1; rw [e] at hg; exact hg h2
      rw [pos_none hg]
      refine walk ?_
      refine ⟨i + 1, asided, agreed, Ent.refl _, ⟨hlt, fun j hj => ?_⟩, by omega⟩
      by_cases h : j = i
      · subst h; exact hin
      · exact hn j (by omega)
  · have hw : whereOf S g = none := where_none.2 fun j ⟨l, c, h1, h2⟩ => hn j (by have := (List.getElem?_eq_some_iff.1 h1).1; omega) ⟨l, c, h1, h2⟩
    rw [hw]
    refine walk ?_
    (first | refine ret1 (v := .int _ _) (.inr rfl) rfl rfl ?_ | refine ret1  (.inr rfl) rfl rfl ?_ | refine ret1 (v := .int _ _) (.inl rfl) rfl rfl ?_ | refine ret1  (.inl rfl) rfl rfl ?_)
    exact ⟨rfl, rfl⟩
end
end Go.Proofs.Ytgdeemneijpeeaa
