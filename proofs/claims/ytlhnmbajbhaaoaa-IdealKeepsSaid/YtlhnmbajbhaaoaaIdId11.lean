/- What a system tells; one that is not there. No condition. -/
import Derived.Test.YtlhnmbajbhaaoaaIdId10
namespace Go.Proofs.Ytlhnmbajbhaaoaa
open Go Go.SL
set_option linter.unusedSimpArgs false
set_option linter.unusedVariables false
set_option maxRecDepth 10000
set_option maxHeartbeats 2000000
/-- An M's state, as it is told. -/
def stC (I : Ide) (m : Int) : List Value := if 0 ≤ m ∧ m < I.ms.length then [.int .i64 (I.mAt m).a, .int .i64 (I.mAt m).p, .int .i64 (I.mAt m).g] else [.int .i64 0, .int .i64 0, .int .i64 0]
theorem takeI_ok : ∀ (l : List Nt) {I : Ide} {K : Int}, I.ok K → (takeI I l).2.ok (K + 3 * l.length)
  | [], I, K, ok => by simpa [takeI] using ok
  | n :: l, I, K, ok => by
    rw [takeI_cons]
    have up : ∀ (j : Nat) {J : Ide} {K : Int}, J.ok K → J.ok (K + j) := by
      intro j
      induction j with
      | zero => intro J K h; simpa using h
      | succ j ih =>
        intro J K h
        have h2 := (ih h).mono
        have e : K + ((j + 1 : Nat) : Int) = K + (j : Int) + 1 := by omega
        rw [e]; exact h2
    by_cases h : mayB I n = true
    · rw [if_pos h]
      have h2 := takeI_ok l (ok.step h)
      have e : K + 3 * (((n :: l).length : Nat) : Int) = K + 3 + 3 * (l.length : Int) := by simp only [List.length_cons]; omega
      rw [e]; exact h2
    · rw [if_neg h]
      have h2 := up (3 * (n :: l).length) ok
      have e : K + 3 * (((n :: l).length : Nat) : Int) = K + ((3 * (n :: l).length : Nat) : Int) := by omega
      rw [e]; exact h2
attribute [local irreducible] WP WPL QSeq QBlk QRet Does Cell Cells Rd Mine Ent Aside RV Yield TabAt SemAt IdeAt
section
variable {B : World} {H F G : HProp} {x : Nat} {L : IdL} {n : Nt} {m p g s : Int} {v : Value} {K : Int}
theorem iStatus [i : HasAt IdeAt H x L F] : Does Try.prog B 11 [ptr x, .int .i64 g] H fun r H' => H' = H ∧ r = .tuple #[.int .i64 (L.I.stat g), .bool (decide (0 ≤ g ∧ g < L.I.tab.all.length))] := by
  have z6 : Cell B (IdeAt x L) x 6 (ptr L.q) := ide_cell rfl
  have z7 : Cell B (IdeAt x L) x 7 (ptr L.s) := ide_cell rfl
  have z8 : Cell B (IdeAt x L) x 8 (.slice (some ⟨L.bm, 0, none⟩) L.I.ms.length L.cm) := ide_cell rfl
  have z9 : Cell B (IdeAt x L) x 9 (.slice (some ⟨L.bp, 0, none⟩) L.I.ps.length L.cp) := ide_cell rfl
  have z10 : Cell B (IdeAt x L) x 10 (.int .i64 L.I.many) := ide_cell rfl
  rw [i.eq]
  refine Does.frame0 ?_
  refine fn_intro 16 Try.func11 rfl rfl rfl ?_
  refine walk ?_
  refine s_call rfl (iStat (L := L) (x := x) (g := g)) rfl ?_
  rintro _ _ ⟨e_, rfl⟩
  obtain rfl := e_.symm
  refine walk ?_
  (first | (apply retRD2 (G := (IdeAt x L + F)) (.inr rfl) rfl; (· first | (refine rv_tmp (v := .int _ _) rfl) | exact rv_tmp rfl); (· first | (refine rv_tmp (v := .bool _) rfl) | exact rv_tmp rfl); (· exact Ent.auto)) | (apply retRD2 (G := (IdeAt x L + F)) (.inl rfl) rfl; (· first | (refine rv_tmp (v := .int _ _) rfl) | exact rv_tmp rfl); (· first | (refine rv_tmp (v := .bool _) rfl) | exact rv_tmp rfl); (· exact Ent.auto)))
  exact ⟨Ent.refl _, rfl⟩
theorem iM [i : HasAt IdeAt H x L F] : Does Try.prog B 12 [ptr x, .int .i64 m] H fun r H' => H' = H ∧ r = .tuple #[.agg (stC L.I m).toArray, .bool (decide (0 ≤ m ∧ m < L.I.ms.length))] := by
  by_cases hm : 0 ≤ m ∧ m < L.I.ms.length
  · obtain ⟨k, hk, hmk, hA⟩ := mAt_of hm
    have c4 : Cells B (IdeAt x L) L.bm (0 + k * 4 + 0) [.int .i64 L.I.ms[k].a, .int .i64 L.I.ms[k].p, .int .i64 L.I.ms[k].g] := by
      rw [Nat.zero_add, Nat.add_zero]
      exact (ide_c4 (B := B) (x := x) hk).take 3
    unfold stC
    rw [if_pos hm, decide_eq_true hm, hA]
    subst hmk
    have z6 : Cell B (IdeAt x L) x 6 (ptr L.q) := ide_cell rfl
    have z7 : Cell B (IdeAt x L) x 7 (ptr L.s) := ide_cell rfl
    have z8 : Cell B (IdeAt x L) x 8 (.slice (some ⟨L.bm, 0, none⟩) L.I.ms.length L.cm) := ide_cell rfl
    have z9 : Cell B (IdeAt x L) x 9 (.slice (some ⟨L.bp, 0, none⟩) L.I.ps.length L.cp) := ide_cell rfl
    have z10 : Cell B (IdeAt x L) x 10 (.int .i64 L.I.many) := ide_cell rfl
    rw [i.eq]
    refine Does.frame0 ?_
    refine fn_intro 30 Try.func12 rfl rfl rfl ?_
    refine walk ?_
    refine s_alloc rfl ?_
    intro b
    refine walk ?_
    refine s_storeV (vs := [.int .i64 L.I.ms[k].a, .int .i64 L.I.ms[k].p, .int .i64 L.I.ms[k].g]) rfl rfl rfl rfl rfl ?_
    refine walk ?_
    (first | (apply retRD2 (G := (IdeAt x L + F)) (.inr rfl) rfl; (· first | (refine rv_cell (v := .agg _) rfl (Cell.blk rfl)) | exact rv_cellA rfl Cells.blk0 rfl | (apply rv_cell; (· exact rfl); (· assumption)) | (apply rv_cellA; (· exact rfl); (· assumption); (· exact rfl))); (· first | (refine rv_tmp (v := .bool _) rfl) | exact rv_tmp rfl); (· exact Ent.auto)) | (apply retRD2 (G := (IdeAt x L + F)) (.inl rfl) rfl; (· first | (refine rv_cell (v := .agg _) rfl (Cell.blk rfl)) | exact rv_cellA rfl Cells.blk0 rfl | (apply rv_cell; (· exact rfl); (· assumption)) | (apply rv_cellA; (· exact rfl); (· assumption); (· exact rfl))); (· first | (refine rv_tmp (v := .bool _) rfl) | exact rv_tmp rfl); (· exact Ent.auto)))
    exact ⟨Ent.refl _, rfl⟩
  · unfold stC
    rw [if_neg hm, decide_eq_false hm]
    have z6 : Cell B (IdeAt x L) x 6 (ptr L.q) := ide_cell rfl
    have z7 : Cell B (IdeAt x L) x 7 (ptr L.s) := ide_cell rfl
    have z8 : Cell B (IdeAt x L) x 8 (.slice (some ⟨L.bm, 0, none⟩) L.I.ms.length L.cm) := ide_cell rfl
    have z9 : Cell B (IdeAt x L) x 9 (.slice (some ⟨L.bp, 0, none⟩) L.I.ps.length L.cp) := ide_cell rfl
    have z10 : Cell B (IdeAt x L) x 10 (.int .i64 L.I.many) := ide_cell rfl
    rw [i.eq]
    refine Does.frame0 ?_
    by_cases h0 : m < 0
    · refine fn_intro 30 Try.func12 rfl rfl rfl ?_
      refine walk ?_
      refine s_alloc rfl ?_
      intro b
      refine walk ?_
      (refine s_build (cs := [.int .i64 0, .int .i64 0, .int .i64 0]) ?_ rfl ?_; (· kernel_rfl))
      refine walk ?_
      refine s_storeV (vs := [.int .i64 0, .int .i64 0, .int .i64 0]) rfl rfl rfl rfl rfl ?_
      refine walk ?_
      (first | (apply retRD2 (G := (IdeAt x L + F)) (.inr rfl) rfl; (· first | (refine rv_cell (v := .agg _) rfl (Cell.blk rfl)) | exact rv_cellA rfl Cells.blk0 rfl | (apply rv_cell; (· exact rfl); (· assumption)) | (apply rv_cellA; (· exact rfl); (· assumption); (· exact rfl))); (· first | (refine rv_tmp (v := .bool _) rfl) | exact rv_tmp rfl); (· exact Ent.auto)) | (apply retRD2 (G := (IdeAt x L + F)) (.inl rfl) rfl; (· first | (refine rv_cell (v := .agg _) rfl (Cell.blk rfl)) | exact rv_cellA rfl Cells.blk0 rfl | (apply rv_cell; (· exact rfl); (· assumption)) | (apply rv_cellA; (· exact rfl); (· assumption); (· exact rfl))); (· first | (refine rv_tmp (v := .bool _) rfl) | exact rv_tmp rfl); (· exact Ent.auto)))
      exact ⟨Ent.refl _, rfl⟩
    · refine fn_intro 30 Try.func12 rfl rfl rfl ?_
      refine walk ?_
      refine s_alloc rfl ?_
      intro b
      refine walk ?_
      (refine s_build (cs := [.int .i64 0, .int .i64 0, .int .i64 0]) ?_ rfl ?_; (· kernel_rfl))
      refine walk ?_
      refine s_storeV (vs := [.int .i64 0, .int .i64 0, .int .i64 0]) rfl rfl rfl rfl rfl ?_
      refine walk ?_
      (first | (apply retRD2 (G := (IdeAt x L + F)) (.inr rfl) rfl; (· first | (refine rv_cell (v := .agg _) rfl (Cell.blk rfl)) | exact rv_cellA rfl Cells.blk0 rfl | (apply rv_cell; (· exact rfl); (· assumption)) | (apply rv_cellA; (· exact rfl); (· assumption); (· exact rfl))); (· first | (refine rv_tmp (v := .bool _) rfl) | exact rv_tmp rfl); (· exact Ent.auto)) | (apply retRD2 (G := (IdeAt x L + F)) (.inl rfl) rfl; (· first | (refine rv_cell (v := .agg _) rfl (Cell.blk rfl)) | exact rv_cellA rfl Cells.blk0 rfl | (apply rv_cell; (· exact rfl); (· assumption)) | (apply rv_cellA; (· exact rfl); (· assumption); (· exact rfl))); (· first | (refine rv_tmp (v := .bool _) rfl) | exact rv_tmp rfl); (· exact Ent.auto)))
      exact ⟨Ent.refl _, rfl⟩
theorem iP [i : HasAt IdeAt H x L F] : Does Try.prog B 16 [ptr x, .int .i64 p] H fun r H' => H' = H ∧ r = .int .i64 (if 0 ≤ p ∧ p < L.I.ps.length then L.I.pAt p else -3) := by
  by_cases hp : 0 ≤ p ∧ p < L.I.ps.length
  · obtain ⟨k, hk, hpk, hA⟩ := pAt_of hp
    have c4 := ide_p (B := B) (x := x) hk
    rw [if_pos hp, hA]
    subst hpk
    have z6 : Cell B (IdeAt x L) x 6 (ptr L.q) := ide_cell rfl
    have z7 : Cell B (IdeAt x L) x 7 (ptr L.s) := ide_cell rfl
    have z8 : Cell B (IdeAt x L) x 8 (.slice (some ⟨L.bm, 0, none⟩) L.I.ms.length L.cm) := ide_cell rfl
    have z9 : Cell B (IdeAt x L) x 9 (.slice (some ⟨L.bp, 0, none⟩) L.I.ps.length L.cp) := ide_cell rfl
    have z10 : Cell B (IdeAt x L) x 10 (.int .i64 L.I.many) := ide_cell rfl
    rw [i.eq]
    refine Does.frame0 ?_
    refine fn_intro 27 Try.func16 rfl rfl rfl ?_
    refine walk ?_
    (first | (apply retRD1 (G := (IdeAt x L + F)) (.inr rfl) rfl; (· first | (refine rv_tmp (v := .int _ _) rfl) | exact rv_tmp rfl); (· exact Ent.auto)) | (apply retRD1 (G := (IdeAt x L + F)) (.inl rfl) rfl; (· first | (refine rv_tmp (v := .int _ _) rfl) | exact rv_tmp rfl); (· exact Ent.auto)))
    exact ⟨Ent.refl _, rfl⟩
  · rw [if_neg hp]
    have z6 : Cell B (IdeAt x L) x 6 (ptr L.q) := ide_cell rfl
    have z7 : Cell B (IdeAt x L) x 7 (ptr L.s) := ide_cell rfl
    have z8 : Cell B (IdeAt x L) x 8 (.slice (some ⟨L.bm, 0, none⟩) L.I.ms.length L.cm) := ide_cell rfl
    have z9 : Cell B (IdeAt x L) x 9 (.slice (some ⟨L.bp, 0, none⟩) L.I.ps.length L.cp) := ide_cell rfl
    have z10 : Cell B (IdeAt x L) x 10 (.int .i64 L.I.many) := ide_cell rfl
    rw [i.eq]
    refine Does.frame0 ?_
    by_cases h0 : p < 0
    · refine fn_intro 27 Try.func16 rfl rfl rfl ?_
      refine walk ?_
      (first | (apply retRD1 (G := (IdeAt x L + F)) (.inr rfl) rfl; (· first | (refine rv_tmp (v := .int _ _) rfl) | exact rv_tmp rfl); (· exact Ent.auto)) | (apply retRD1 (G := (IdeAt x L + F)) (.inl rfl) rfl; (· first | (refine rv_tmp (v := .int _ _) rfl) | exact rv_tmp rfl); (· exact Ent.auto)))
      exact ⟨Ent.refl _, rfl⟩
    · refine fn_intro 27 Try.func16 rfl rfl rfl ?_
      refine walk ?_
      (first | (apply retRD1 (G := (IdeAt x L + F)) (.inr rfl) rfl; (· first | (refine rv_tmp (v := .int _ _) rfl) | exact rv_tmp rfl); (· exact Ent.auto)) | (apply retRD1 (G := (IdeAt x L + F)) (.inl rfl) rfl; (· first | (refine rv_tmp (v := .int _ _) rfl) | exact rv_tmp rfl); (· exact Ent.auto)))
      exact ⟨Ent.refl _, rfl⟩
theorem iLen [i : HasAt IdeAt H x L F] : Does Try.prog B 18 [ptr x] H fun r H' => H' = H ∧ r = .int .i64 L.I.many := by
  have z6 : Cell B (IdeAt x L) x 6 (ptr L.q) := ide_cell rfl
  have z7 : Cell B (IdeAt x L) x 7 (ptr L.s) := ide_cell rfl
  have z8 : Cell B (IdeAt x L) x 8 (.slice (some ⟨L.bm, 0, none⟩) L.I.ms.length L.cm) := ide_cell rfl
  have z9 : Cell B (IdeAt x L) x 9 (.slice (some ⟨L.bp, 0, none⟩) L.I.ps.length L.cp) := ide_cell rfl
  have z10 : Cell B (IdeAt x L) x 10 (.int .i64 L.I.many) := ide_cell rfl
  rw [i.eq]
  refine Does.frame0 ?_
  refine fn_intro 9 Try.func18 rfl rfl rfl ?_
  refine walk ?_
  (first | (apply retRD1 (G := (IdeAt x L + F)) (.inr rfl) rfl; (· first | (refine rv_tmp (v := .int _ _) rfl) | exact rv_tmp rfl); (· exact Ent.auto)) | (apply retRD1 (G := (IdeAt x L + F)) (.inl rfl) rfl; (· first | (refine rv_tmp (v := .int _ _) rfl) | exact rv_tmp rfl); (· exact Ent.auto)))
  exact ⟨Ent.refl _, rfl⟩
theorem iCountX [i : HasAt IdeAt H x L F] : Does Try.prog B 14 [ptr x, .int .i64 s] H fun r H' => H' = H ∧ r = .int .i64 (max 0 (L.I.count s)) := by
  have z6 : Cell B (IdeAt x L) x 6 (ptr L.q) := ide_cell rfl
  have z7 : Cell B (IdeAt x L) x 7 (ptr L.s) := ide_cell rfl
  have z8 : Cell B (IdeAt x L) x 8 (.slice (some ⟨L.bm, 0, none⟩) L.I.ms.length L.cm) := ide_cell rfl
  have z9 : Cell B (IdeAt x L) x 9 (.slice (some ⟨L.bp, 0, none⟩) L.I.ps.length L.cp) := ide_cell rfl
  have z10 : Cell B (IdeAt x L) x 10 (.int .i64 L.I.many) := ide_cell rfl
  rw [i.eq]
  refine Does.frame0 ?_
  refine fn_intro 14 Try.func14 rfl rfl rfl ?_
  refine walk ?_
  refine s_call rfl (iCount (L := L) (x := x) (s := s)) rfl ?_
  rintro _ _ ⟨e_, rfl⟩
  obtain rfl := e_.symm
  refine walk ?_
  refine s_max2 rfl rfl rfl rfl ?_
  refine walk ?_
  (first | (apply retRD1 (G := (IdeAt x L + F)) (.inr rfl) rfl; (· first | (refine rv_tmp (v := .int _ _) rfl) | exact rv_tmp rfl); (· exact Ent.auto)) | (apply retRD1 (G := (IdeAt x L + F)) (.inl rfl) rfl; (· first | (refine rv_tmp (v := .int _ _) rfl) | exact rv_tmp rfl); (· exact Ent.auto)))
  exact ⟨Ent.refl _, rfl⟩
theorem iWaits [i : HasAt IdeAt H x L F] (hl : LOk L.I.sem) : Does Try.prog B 15 [ptr x, .int .i64 s] H fun r H' => H' = Mine 3 1 r (rowS L.I.sem s).length (zs (rowS L.I.sem s)) + H := by
  have z6 : Cell B (IdeAt x L) x 6 (ptr L.q) := ide_cell rfl
  have z7 : Cell B (IdeAt x L) x 7 (ptr L.s) := ide_cell rfl
  have z8 : Cell B (IdeAt x L) x 8 (.slice (some ⟨L.bm, 0, none⟩) L.I.ms.length L.cm) := ide_cell rfl
  have z9 : Cell B (IdeAt x L) x 9 (.slice (some ⟨L.bp, 0, none⟩) L.I.ps.length L.cp) := ide_cell rfl
  have z10 : Cell B (IdeAt x L) x 10 (.int .i64 L.I.many) := ide_cell rfl
  rw [i.eq]
  refine fn_intro 13 Try.func15 rfl rfl rfl ?_
  refine walk ?_
  refine s_call rfl (sWaitingA (p := L.s) (S := L.I.sem) (k := s) hl) rfl ?_
  rintro r _ rfl
  refine walk ?_
  exact ret1 (.inr rfl) rfl rfl rfl
theorem zTake {ao : Option Addr} {len cap : Nat} : Does Try.prog B 8 [.pointer none, .slice ao len cap] H fun r H' => H' = H ∧ r = .tuple #[.int .i64 0, .int .i64 1] := by
  refine fn_intro 41 Try.func8 rfl rfl rfl ?_
  refine walk ?_
  (first | refine ret2 (v := .int _ _) (x := .int _ _) (.inr rfl) rfl rfl rfl ?_ | refine ret2  (.inr rfl) rfl rfl rfl ?_ | refine ret2 (v := .int _ _) (x := .int _ _) (.inl rfl) rfl rfl rfl ?_ | refine ret2  (.inl rfl) rfl rfl rfl ?_)
  exact ⟨rfl, rfl⟩
theorem zStatus : Does Try.prog B 11 [.pointer none, .int .i64 g] H fun r H' => H' = H ∧ r = .tuple #[.int .i64 0, .bool false] := by
  refine fn_intro 16 Try.func11 rfl rfl rfl ?_
  refine walk ?_
  (first | refine ret2 (v := .int _ _) (x := .bool _) (.inr rfl) rfl rfl rfl ?_ | refine ret2  (.inr rfl) rfl rfl rfl ?_ | refine ret2 (v := .int _ _) (x := .bool _) (.inl rfl) rfl rfl rfl ?_ | refine ret2  (.inl rfl) rfl rfl rfl ?_)
  exact ⟨rfl, rfl⟩
theorem zM : Does Try.prog B 12 [.pointer none, .int .i64 m] H fun r H' => H' = H ∧ r = .tuple #[.agg [.int .i64 0, .int .i64 0, .int .i64 0].toArray, .bool false] := by
  refine Does.frame0 ?_
  refine fn_intro 30 Try.func12 rfl rfl rfl ?_
  refine walk ?_
  refine s_alloc rfl ?_
  intro b
  refine walk ?_
  (refine s_build (cs := [.int .i64 0, .int .i64 0, .int .i64 0]) ?_ rfl ?_; (· kernel_rfl))
  refine walk ?_
  refine s_storeV (vs := [.int .i64 0, .int .i64 0, .int .i64 0]) rfl rfl rfl rfl rfl ?_
  refine walk ?_
  (first | (apply retRD2 (G := H) (.inr rfl) rfl; (· first | (refine rv_cell (v := .agg _) rfl (Cell.blk rfl)) | exact rv_cellA rfl Cells.blk0 rfl | (apply rv_cell; (· exact rfl); (· assumption)) | (apply rv_cellA; (· exact rfl); (· assumption); (· exact rfl))); (· first | (refine rv_tmp (v := .bool _) rfl) | exact rv_tmp rfl); (· exact Ent.auto)) | (apply retRD2 (G := H) (.inl rfl) rfl; (· first | (refine rv_cell (v := .agg _) rfl (Cell.blk rfl)) | exact rv_cellA rfl Cells.blk0 rfl | (apply rv_cell; (· exact rfl); (· assumption)) | (apply rv_cellA; (· exact rfl); (· assumption); (· exact rfl))); (· first | (refine rv_tmp (v := .bool _) rfl) | exact rv_tmp rfl); (· exact Ent.auto)))
  exact ⟨Ent.refl _, rfl⟩
theorem zMay : Does Try.prog B 13 [.pointer none, noteV n] H fun r H' => H' = H ∧ r = .bool false := by
  refine Does.frame0 ?_
  refine fn_intro 34 Try.func13 rfl rfl rfl ?_
  refine walk ?_
  refine s_box (cs := nv n) rfl rfl rfl ?_
  intro b
  refine walk ?_
  (first | (apply retRD1 (G := H) (.inr rfl) rfl; (· first | (refine rv_tmp (v := .bool _) rfl) | exact rv_tmp rfl); (· exact Ent.auto)) | (apply retRD1 (G := H) (.inl rfl) rfl; (· first | (refine rv_tmp (v := .bool _) rfl) | exact rv_tmp rfl); (· exact Ent.auto)))
  exact ⟨Ent.refl _, rfl⟩
theorem zCount : Does Try.prog B 14 [.pointer none, .int .i64 s] H fun r H' => H' = H ∧ r = .int .i64 0 := by
  refine fn_intro 14 Try.func14 rfl rfl rfl ?_
  refine walk ?_
  (first | refine ret1 (v := .int _ _) (.inr rfl) rfl rfl ?_ | refine ret1  (.inr rfl) rfl rfl ?_ | refine ret1 (v := .int _ _) (.inl rfl) rfl rfl ?_ | refine ret1  (.inl rfl) rfl rfl ?_)
  exact ⟨rfl, rfl⟩
theorem zWaits : Does Try.prog B 15 [.pointer none, .int .i64 s] H fun r H' => H' = H ∧ r = .slice none 0 0 := by
  refine fn_intro 13 Try.func15 rfl rfl rfl ?_
  refine walk ?_
  (first | refine ret1 (v := .slice _ _ _) (.inr rfl) rfl rfl ?_ | refine ret1  (.inr rfl) rfl rfl ?_ | refine ret1 (v := .slice _ _ _) (.inl rfl) rfl rfl ?_ | refine ret1  (.inl rfl) rfl rfl ?_)
  exact ⟨rfl, rfl⟩
theorem zP : Does Try.prog B 16 [.pointer none, .int .i64 p] H fun r H' => H' = H ∧ r = .int .i64 (-3) := by
  refine fn_intro 27 Try.func16 rfl rfl rfl ?_
  refine walk ?_
  (first | refine ret1 (v := .int _ _) (.inr rfl) rfl rfl ?_ | refine ret1  (.inr rfl) rfl rfl ?_ | refine ret1 (v := .int _ _) (.inl rfl) rfl rfl ?_ | refine ret1  (.inl rfl) rfl rfl ?_)
  exact ⟨rfl, rfl⟩
theorem zCallers : Does Try.prog B 17 [.pointer none] H fun r H' => H' = H ∧ r = .int .i64 0 := by
  refine fn_intro 24 Try.func17 rfl rfl rfl ?_
  refine walk ?_
  (first | refine ret1 (v := .int _ _) (.inr rfl) rfl rfl ?_ | refine ret1  (.inr rfl) rfl rfl ?_ | refine ret1 (v := .int _ _) (.inl rfl) rfl rfl ?_ | refine ret1  (.inl rfl) rfl rfl ?_)
  exact ⟨rfl, rfl⟩
theorem zLen : Does Try.prog B 18 [.pointer none] H fun r H' => H' = H ∧ r = .int .i64 0 := by
  refine fn_intro 9 Try.func18 rfl rfl rfl ?_
  refine walk ?_
  (first | refine ret1 (v := .int _ _) (.inr rfl) rfl rfl ?_ | refine ret1  (.inr rfl) rfl rfl ?_ | refine ret1 (v := .int _ _) (.inl rfl) rfl rfl ?_ | refine ret1  (.inl rfl) rfl rfl ?_)
  exact ⟨rfl, rfl⟩
theorem zCopy : Does Try.prog B 19 [.pointer none] H fun r H' => H' = H ∧ r = .pointer none := by
  refine fn_intro 35 Try.func19 rfl rfl rfl ?_
  refine walk ?_
  (first | refine ret1 (v := .pointer _) (.inr rfl) rfl rfl ?_ | refine ret1  (.inr rfl) rfl rfl ?_ | refine ret1 (v := .pointer _) (.inl rfl) rfl rfl ?_ | refine ret1  (.inl rfl) rfl rfl ?_)
  exact ⟨rfl, rfl⟩
end
end Go.Proofs.Ytlhnmbajbhaaoaa
