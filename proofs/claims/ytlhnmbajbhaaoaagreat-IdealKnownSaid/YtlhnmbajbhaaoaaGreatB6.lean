/- What a system tells; one that is not there. What a system keeps, in numbers: its parts. What a system keeps, whatever notes are taken. What a system keeps: each kind of notes. What a system keeps: whatever note is taken. What a system keeps: at first; tallies. No condition. -/
import Derived.Test.YtlhnmbajbhaaoaaGreatB5
namespace Go.Proofs.YtlhnmbajbhaaoaaGreat
open Go Go.SL
set_option linter.unusedSimpArgs false
set_option linter.unusedVariables false
set_option maxRecDepth 10000
set_option maxHeartbeats 2000000
/-- An M's state, as it is told. -/
def stC (I : Ide) (m : Int) : List Value := if 0 ≤ m ∧ m < I.ms.length then [.int .i64 (I.mAt m).a, .int .i64 (I.mAt m).p, .int .i64 (I.mAt m).g] else [.int .i64 0, .int .i64 0, .int .i64 0]
theorem takeI_ok : ∀ (l : List Nt) {I : Ide} {K : Int}, I.ok K → (takeI I l).2.ok (K + 3 * l.length)
  | [], I, K, ok => by simpa [takeI] using ok
  | n :: l, I, K, ok => by
    rw [takeI_cons]
    have up : ∀ (j : Nat) {J : Ide} {K : Int}, J.ok K → J.ok (K + j) := by
      intro j
      induction j with
      | zero => intro J K h; simpa using h
      | succ j ih =>
        intro J K h
        have h2 := (ih h).mono
        have e : K + ((j + 1 : Nat) : Int) = K + (j : Int) + 1 := by omega
        rw [e]; exact h2
    by_cases h : mayB I n = true
    · rw [if_pos h]
      have h2 := takeI_ok l (ok.step h)
      have e : K + 3 * (((n :: l).length : Nat) : Int) = K + 3 + 3 * (l.length : Int) := by simp only [List.length_cons]; omega
      rw [e]; exact h2
    · rw [if_neg h]
      have h2 := up (3 * (n :: l).length) ok
      have e : K + 3 * (((n :: l).length : Nat) : Int) = K + ((3 * (n :: l).length : Nat) : Int) := by omega
      rw [e]; exact h2
attribute [local irreducible] WP WPL QSeq QBlk QRet Does Cell Cells Rd Mine Ent Aside RV Yield TabAt SemAt IdeAt
section
variable {B : World} {H F G : HProp} {x : Nat} {L : IdL} {n : Nt} {m p g s : Int} {v : Value} {K : Int}
theorem iStatus [i : HasAt IdeAt H x L F] : Does Tryz.prog B 15 [ptr x, .int .i64 g] H fun r H' => H' = H ∧ r = .tuple #[.int .i64 (L.I.stat g), .bool (decide (0 ≤ g ∧ g < L.I.tab.all.length))] := by
  have z6 : Cell B (IdeAt x L) x 6 (ptr L.q) := ide_cell rfl
  have z7 : Cell B (IdeAt x L) x 7 (ptr L.s) := ide_cell rfl
  have z8 : Cell B (IdeAt x L) x 8 (.slice (some ⟨L.bm, 0, none⟩) L.I.ms.length L.cm) := ide_cell rfl
  have z9 : Cell B (IdeAt x L) x 9 (.slice (some ⟨L.bp, 0, none⟩) L.I.ps.length L.cp) := ide_cell rfl
  have z10 : Cell B (IdeAt x L) x 10 (.int .i64 L.I.many) := ide_cell rfl
  rw [i.eq]
  refine Does.frame0 ?_
  refine fn_intro 16 Tryz.func15 rfl rfl rfl ?_
  refine walk ?_
  refine s_call rfl (iStat (L := L) (x := x) (g := g)) rfl ?_
  rintro _ _ ⟨e_, rfl⟩
  obtain rfl := e_.symm
  refine walk ?_
  (first | (apply retRD2 (G := (IdeAt x L + F)) (.inr rfl) rfl; (· first | (refine rv_tmp (v := .int _ _) rfl) | exact rv_tmp rfl); (· first | (refine rv_tmp (v := .bool _) rfl) | exact rv_tmp rfl); (· exact Ent.auto)) | (apply retRD2 (G := (IdeAt x L + F)) (.inl rfl) rfl; (· first | (refine rv_tmp (v := .int _ _) rfl) | exact rv_tmp rfl); (· first | (refine rv_tmp (v := .bool _) rfl) | exact rv_tmp rfl); (· exact Ent.auto)))
  exact ⟨Ent.refl _, rfl⟩
theorem iM [i : HasAt IdeAt H x L F] : Does Tryz.prog B 16 [ptr x, .int .i64 m] H fun r H' => H' = H ∧ r = .tuple #[.agg (stC L.I m).toArray, .bool (decide (0 ≤ m ∧ m < L.I.ms.length))] := by
  by_cases hm : 0 ≤ m ∧ m < L.I.ms.length
  · obtain ⟨k, hk, hmk, hA⟩ := mAt_of hm
    have c4 : Cells B (IdeAt x L) L.bm (0 + k * 4 + 0) [.int .i64 L.I.ms[k].a, .int .i64 L.I.ms[k].p, .int .i64 L.I.ms[k].g] := by
      rw [Nat.zero_add, Nat.add_zero]
      exact (ide_c4 (B := B) (x := x) hk).take 3
    unfold stC
    rw [if_pos hm, decide_eq_true hm, hA]
    subst hmk
    have z6 : Cell B (IdeAt x L) x 6 (ptr L.q) := ide_cell rfl
    have z7 : Cell B (IdeAt x L) x 7 (ptr L.s) := ide_cell rfl
    have z8 : Cell B (IdeAt x L) x 8 (.slice (some ⟨L.bm, 0, none⟩) L.I.ms.length L.cm) := ide_cell rfl
    have z9 : Cell B (IdeAt x L) x 9 (.slice (some ⟨L.bp, 0, none⟩) L.I.ps.length L.cp) := ide_cell rfl
    have z10 : Cell B (IdeAt x L) x 10 (.int .i64 L.I.many) := ide_cell rfl
    rw [i.eq]
    refine Does.frame0 ?_
    refine fn_intro 30 Tryz.func16 rfl rfl rfl ?_
    refine walk ?_
    refine s_alloc rfl ?_
    intro b
    refine walk ?_
    refine s_storeV (vs := [.int .i64 L.I.ms[k].a, .int .i64 L.I.ms[k].p, .int .i64 L.I.ms[k].g]) rfl rfl rfl rfl rfl ?_
    refine walk ?_
    (first | (apply retRD2 (G := (IdeAt x L + F)) (.inr rfl) rfl; (· first | (refine rv_cell (v := .agg _) rfl (Cell.blk rfl)) | exact rv_cellA rfl Cells.blk0 rfl | (apply rv_cell; (· exact rfl); (· assumption)) | (apply rv_cellA; (· exact rfl); (· assumption); (· exact rfl))); (· first | (refine rv_tmp (v := .bool _) rfl) | exact rv_tmp rfl); (· exact Ent.auto)) | (apply retRD2 (G := (IdeAt x L + F)) (.inl rfl) rfl; (· first | (refine rv_cell (v := .agg _) rfl (Cell.blk rfl)) | exact rv_cellA rfl Cells.blk0 rfl | (apply rv_cell; (· exact rfl); (· assumption)) | (apply rv_cellA; (· exact rfl); (· assumption); (· exact rfl))); (· first | (refine rv_tmp (v := .bool _) rfl) | exact rv_tmp rfl); (· exact Ent.auto)))
    exact ⟨Ent.refl _, rfl⟩
  · unfold stC
    rw [if_neg hm, decide_eq_false hm]
    have z6 : Cell B (IdeAt x L) x 6 (ptr L.q) := ide_cell rfl
    have z7 : Cell B (IdeAt x L) x 7 (ptr L.s) := ide_cell rfl
    have z8 : Cell B (IdeAt x L) x 8 (.slice (some ⟨L.bm, 0, none⟩) L.I.ms.length L.cm) := ide_cell rfl
    have z9 : Cell B (IdeAt x L) x 9 (.slice (some ⟨L.bp, 0, none⟩) L.I.ps.length L.cp) := ide_cell rfl
    have z10 : Cell B (IdeAt x L) x 10 (.int .i64 L.I.many) := ide_cell rfl
    rw [i.eq]
    refine Does.frame0 ?_
    by_cases h0 : m < 0
    · refine fn_intro 30 Tryz.func16 rfl rfl rfl ?_
      refine walk ?_
      refine s_alloc rfl ?_
      intro b
      refine walk ?_
      (refine s_build (cs := [.int .i64 0, .int .i64 0, .int .i64 0]) ?_ rfl ?_; (· kernel_rfl))
      refine walk ?_
      refine s_storeV (vs := [.int .i64 0, .int .i64 0, .int .i64 0]) rfl rfl rfl rfl rfl ?_
      refine walk ?_
      (first | (apply retRD2 (G := (IdeAt x L + F)) (.inr rfl) rfl; (· first | (refine rv_cell (v := .agg _) rfl (Cell.blk rfl)) | exact rv_cellA rfl Cells.blk0 rfl | (apply rv_cell; (· exact rfl); (· assumption)) | (apply rv_cellA; (· exact rfl); (· assumption); (· exact rfl))); (· first | (refine rv_tmp (v := .bool _) rfl) | exact rv_tmp rfl); (· exact Ent.auto)) | (apply retRD2 (G := (IdeAt x L + F)) (.inl rfl) rfl; (· first | (refine rv_cell (v := .agg _) rfl (Cell.blk rfl)) | exact rv_cellA rfl Cells.blk0 rfl | (apply rv_cell; (· exact rfl); (· assumption)) | (apply rv_cellA; (· exact rfl); (· assumption); (· exact rfl))); (· first | (refine rv_tmp (v := .bool _) rfl) | exact rv_tmp rfl); (· exact Ent.auto)))
      exact ⟨Ent.refl _, rfl⟩
    · refine fn_intro 30 Tryz.func16 rfl rfl rfl ?_
      refine walk ?_
      refine s_alloc rfl ?_
      intro b
      refine walk ?_
      (refine s_build (cs := [.int .i64 0, .int .i64 0, .int .i64 0]) ?_ rfl ?_; (· kernel_rfl))
      refine walk ?_
      refine s_storeV (vs := [.int .i64 0, .int .i64 0, .int .i64 0]) rfl rfl rfl rfl rfl ?_
      refine walk ?_
      (first | (apply retRD2 (G := (IdeAt x L + F)) (.inr rfl) rfl; (· first | (refine rv_cell (v := .agg _) rfl (Cell.blk rfl)) | exact rv_cellA rfl Cells.blk0 rfl | (apply rv_cell; (· exact rfl); (· assumption)) | (apply rv_cellA; (· exact rfl); (· assumption); (· exact rfl))); (· first | (refine rv_tmp (v := .bool _) rfl) | exact rv_tmp rfl); (· exact Ent.auto)) | (apply retRD2 (G := (IdeAt x L + F)) (.inl rfl) rfl; (· first | (refine rv_cell (v := .agg _) rfl (Cell.blk rfl)) | exact rv_cellA rfl Cells.blk0 rfl | (apply rv_cell; (· exact rfl); (· assumption)) | (apply rv_cellA; (· exact rfl); (· assumption); (· exact rfl))); (· first | (refine rv_tmp (v := .bool _) rfl) | exact rv_tmp rfl); (· exact Ent.auto)))
      exact ⟨Ent.refl _, rfl⟩
theorem iP [i : HasAt IdeAt H x L F] : Does Tryz.prog B 17 [ptr x, .int .i64 p] H fun r H' => H' = H ∧ r = .int .i64 (if 0 ≤ p ∧ p < L.I.ps.length then L.I.pAt p else -3) := by
  by_cases hp : 0 ≤ p ∧ p < L.I.ps.length
  · obtain ⟨k, hk, hpk, hA⟩ := pAt_of hp
    have c4 := ide_p (B := B) (x := x) hk
    rw [if_pos hp, hA]
    subst hpk
    have z6 : Cell B (IdeAt x L) x 6 (ptr L.q) := ide_cell rfl
    have z7 : Cell B (IdeAt x L) x 7 (ptr L.s) := ide_cell rfl
    have z8 : Cell B (IdeAt x L) x 8 (.slice (some ⟨L.bm, 0, none⟩) L.I.ms.length L.cm) := ide_cell rfl
    have z9 : Cell B (IdeAt x L) x 9 (.slice (some ⟨L.bp, 0, none⟩) L.I.ps.length L.cp) := ide_cell rfl
    have z10 : Cell B (IdeAt x L) x 10 (.int .i64 L.I.many) := ide_cell rfl
    rw [i.eq]
    refine Does.frame0 ?_
    refine fn_intro 27 Tryz.func17 rfl rfl rfl ?_
    refine walk ?_
    (first | (apply retRD1 (G := (IdeAt x L + F)) (.inr rfl) rfl; (· first | (refine rv_tmp (v := .int _ _) rfl) | exact rv_tmp rfl); (· exact Ent.auto)) | (apply retRD1 (G := (IdeAt x L + F)) (.inl rfl) rfl; (· first | (refine rv_tmp (v := .int _ _) rfl) | exact rv_tmp rfl); (· exact Ent.auto)))
    exact ⟨Ent.refl _, rfl⟩
  · rw [if_neg hp]
    have z6 : Cell B (IdeAt x L) x 6 (ptr L.q) := ide_cell rfl
    have z7 : Cell B (IdeAt x L) x 7 (ptr L.s) := ide_cell rfl
    have z8 : Cell B (IdeAt x L) x 8 (.slice (some ⟨L.bm, 0, none⟩) L.I.ms.length L.cm) := ide_cell rfl
    have z9 : Cell B (IdeAt x L) x 9 (.slice (some ⟨L.bp, 0, none⟩) L.I.ps.length L.cp) := ide_cell rfl
    have z10 : Cell B (IdeAt x L) x 10 (.int .i64 L.I.many) := ide_cell rfl
    rw [i.eq]
    refine Does.frame0 ?_
    by_cases h0 : p < 0
    · refine fn_intro 27 Tryz.func17 rfl rfl rfl ?_
      refine walk ?_
      (first | (apply retRD1 (G := (IdeAt x L + F)) (.inr rfl) rfl; (· first | (refine rv_tmp (v := .int _ _) rfl) | exact rv_tmp rfl); (· exact Ent.auto)) | (apply retRD1 (G := (IdeAt x L + F)) (.inl rfl) rfl; (· first | (refine rv_tmp (v := .int _ _) rfl) | exact rv_tmp rfl); (· exact Ent.auto)))
      exact ⟨Ent.refl _, rfl⟩
    · refine fn_intro 27 Tryz.func17 rfl rfl rfl ?_
      refine walk ?_
      (first | (apply retRD1 (G := (IdeAt x L + F)) (.inr rfl) rfl; (· first | (refine rv_tmp (v := .int _ _) rfl) | exact rv_tmp rfl); (· exact Ent.auto)) | (apply retRD1 (G := (IdeAt x L + F)) (.inl rfl) rfl; (· first | (refine rv_tmp (v := .int _ _) rfl) | exact rv_tmp rfl); (· exact Ent.auto)))
      exact ⟨Ent.refl _, rfl⟩
theorem iLen [i : HasAt IdeAt H x L F] : Does Tryz.prog B 31 [ptr x] H fun r H' => H' = H ∧ r = .int .i64 L.I.many := by
  have z6 : Cell B (IdeAt x L) x 6 (ptr L.q) := ide_cell rfl
  have z7 : Cell B (IdeAt x L) x 7 (ptr L.s) := ide_cell rfl
  have z8 : Cell B (IdeAt x L) x 8 (.slice (some ⟨L.bm, 0, none⟩) L.I.ms.length L.cm) := ide_cell rfl
  have z9 : Cell B (IdeAt x L) x 9 (.slice (some ⟨L.bp, 0, none⟩) L.I.ps.length L.cp) := ide_cell rfl
  have z10 : Cell B (IdeAt x L) x 10 (.int .i64 L.I.many) := ide_cell rfl
  rw [i.eq]
  refine Does.frame0 ?_
  refine fn_intro 9 Tryz.func31 rfl rfl rfl ?_
  refine walk ?_
  (first | (apply retRD1 (G := (IdeAt x L + F)) (.inr rfl) rfl; (· first | (refine rv_tmp (v := .int _ _) rfl) | exact rv_tmp rfl); (· exact Ent.auto)) | (apply retRD1 (G := (IdeAt x L + F)) (.inl rfl) rfl; (· first | (refine rv_tmp (v := .int _ _) rfl) | exact rv_tmp rfl); (· exact Ent.auto)))
  exact ⟨Ent.refl _, rfl⟩
theorem iCountX [i : HasAt IdeAt H x L F] : Does Tryz.prog B 18 [ptr x, .int .i64 s] H fun r H' => H' = H ∧ r = .int .i64 (max 0 (L.I.count s)) := by
  have z6 : Cell B (IdeAt x L) x 6 (ptr L.q) := ide_cell rfl
  have z7 : Cell B (IdeAt x L) x 7 (ptr L.s) := ide_cell rfl
  have z8 : Cell B (IdeAt x L) x 8 (.slice (some ⟨L.bm, 0, none⟩) L.I.ms.length L.cm) := ide_cell rfl
  have z9 : Cell B (IdeAt x L) x 9 (.slice (some ⟨L.bp, 0, none⟩) L.I.ps.length L.cp) := ide_cell rfl
  have z10 : Cell B (IdeAt x L) x 10 (.int .i64 L.I.many) := ide_cell rfl
  rw [i.eq]
  refine Does.frame0 ?_
  refine fn_intro 14 Tryz.func18 rfl rfl rfl ?_
  refine walk ?_
  refine s_call rfl (iCount (L := L) (x := x) (s := s)) rfl ?_
  rintro _ _ ⟨e_, rfl⟩
  obtain rfl := e_.symm
  refine walk ?_
  refine s_max2 rfl rfl rfl rfl ?_
  refine walk ?_
  (first | (apply retRD1 (G := (IdeAt x L + F)) (.inr rfl) rfl; (· first | (refine rv_tmp (v := .int _ _) rfl) | exact rv_tmp rfl); (· exact Ent.auto)) | (apply retRD1 (G := (IdeAt x L + F)) (.inl rfl) rfl; (· first | (refine rv_tmp (v := .int _ _) rfl) | exact rv_tmp rfl); (· exact Ent.auto)))
  exact ⟨Ent.refl _, rfl⟩
theorem iWaits [i : HasAt IdeAt H x L F] (hl : LOk L.I.sem) : Does Tryz.prog B 19 [ptr x, .int .i64 s] H fun r H' => H' = Mine 3 1 r (rowS L.I.sem s).length (zs (rowS L.I.sem s)) + H := by
  have z6 : Cell B (IdeAt x L) x 6 (ptr L.q) := ide_cell rfl
  have z7 : Cell B (IdeAt x L) x 7 (ptr L.s) := ide_cell rfl
  have z8 : Cell B (IdeAt x L) x 8 (.slice (some ⟨L.bm, 0, none⟩) L.I.ms.length L.cm) := ide_cell rfl
  have z9 : Cell B (IdeAt x L) x 9 (.slice (some ⟨L.bp, 0, none⟩) L.I.ps.length L.cp) := ide_cell rfl
  have z10 : Cell B (IdeAt x L) x 10 (.int .i64 L.I.many) := ide_cell rfl
  rw [i.eq]
  refine fn_intro 13 Tryz.func19 rfl rfl rfl ?_
  refine walk ?_
  refine s_call rfl (sWaitingA (p := L.s) (S := L.I.sem) (k := s) hl) rfl ?_
  rintro r _ rfl
  refine walk ?_
  exact ret1 (.inr rfl) rfl rfl rfl
theorem zTake {ao : Option Addr} {len cap : Nat} : Does Tryz.prog B 13 [.pointer none, .slice ao len cap] H fun r H' => H' = H ∧ r = .tuple #[.int .i64 0, .int .i64 1] := by
  refine fn_intro 41 Tryz.func13 rfl rfl rfl ?_
  refine walk ?_
  (first | refine ret2 (v := .int _ _) (x := .int _ _) (.inr rfl) rfl rfl rfl ?_ | refine ret2  (.inr rfl) rfl rfl rfl ?_ | refine ret2 (v := .int _ _) (x := .int _ _) (.inl rfl) rfl rfl rfl ?_ | refine ret2  (.inl rfl) rfl rfl rfl ?_)
  exact ⟨rfl, rfl⟩
theorem zStatus : Does Tryz.prog B 15 [.pointer none, .int .i64 g] H fun r H' => H' = H ∧ r = .tuple #[.int .i64 0, .bool false] := by
  refine fn_intro 16 Tryz.func15 rfl rfl rfl ?_
  refine walk ?_
  (first | refine ret2 (v := .int _ _) (x := .bool _) (.inr rfl) rfl rfl rfl ?_ | refine ret2  (.inr rfl) rfl rfl rfl ?_ | refine ret2 (v := .int _ _) (x := .bool _) (.inl rfl) rfl rfl rfl ?_ | refine ret2  (.inl rfl) rfl rfl rfl ?_)
  exact ⟨rfl, rfl⟩
theorem zM : Does Tryz.prog B 16 [.pointer none, .int .i64 m] H fun r H' => H' = H ∧ r = .tuple #[.agg [.int .i64 0, .int .i64 0, .int .i64 0].toArray, .bool false] := by
  refine Does.frame0 ?_
  refine fn_intro 30 Tryz.func16 rfl rfl rfl ?_
  refine walk ?_
  refine s_alloc rfl ?_
  intro b
  refine walk ?_
  (refine s_build (cs := [.int .i64 0, .int .i64 0, .int .i64 0]) ?_ rfl ?_; (· kernel_rfl))
  refine walk ?_
  refine s_storeV (vs := [.int .i64 0, .int .i64 0, .int .i64 0]) rfl rfl rfl rfl rfl ?_
  refine walk ?_
  (first | (apply retRD2 (G := H) (.inr rfl) rfl; (· first | (refine rv_cell (v := .agg _) rfl (Cell.blk rfl)) | exact rv_cellA rfl Cells.blk0 rfl | (apply rv_cell; (· exact rfl); (· assumption)) | (apply rv_cellA; (· exact rfl); (· assumption); (· exact rfl))); (· first | (refine rv_tmp (v := .bool _) rfl) | exact rv_tmp rfl); (· exact Ent.auto)) | (apply retRD2 (G := H) (.inl rfl) rfl; (· first | (refine rv_cell (v := .agg _) rfl (Cell.blk rfl)) | exact rv_cellA rfl Cells.blk0 rfl | (apply rv_cell; (· exact rfl); (· assumption)) | (apply rv_cellA; (· exact rfl); (· assumption); (· exact rfl))); (· first | (refine rv_tmp (v := .bool _) rfl) | exact rv_tmp rfl); (· exact Ent.auto)))
  exact ⟨Ent.refl _, rfl⟩
theorem zMay : Does Tryz.prog B 23 [.pointer none, noteV n] H fun r H' => H' = H ∧ r = .bool false := by
  refine Does.frame0 ?_
  refine fn_intro 34 Tryz.func23 rfl rfl rfl ?_
  refine walk ?_
  refine s_box (cs := nv n) rfl rfl rfl ?_
  intro b
  refine walk ?_
  (first | (apply retRD1 (G := H) (.inr rfl) rfl; (· first | (refine rv_tmp (v := .bool _) rfl) | exact rv_tmp rfl); (· exact Ent.auto)) | (apply retRD1 (G := H) (.inl rfl) rfl; (· first | (refine rv_tmp (v := .bool _) rfl) | exact rv_tmp rfl); (· exact Ent.auto)))
  exact ⟨Ent.refl _, rfl⟩
theorem zCount : Does Tryz.prog B 18 [.pointer none, .int .i64 s] H fun r H' => H' = H ∧ r = .int .i64 0 := by
  refine fn_intro 14 Tryz.func18 rfl rfl rfl ?_
  refine walk ?_
  (first | refine ret1 (v := .int _ _) (.inr rfl) rfl rfl ?_ | refine ret1  (.inr rfl) rfl rfl ?_ | refine ret1 (v := .int _ _) (.inl rfl) rfl rfl ?_ | refine ret1  (.inl rfl) rfl rfl ?_)
  exact ⟨rfl, rfl⟩
theorem zWaits : Does Tryz.prog B 19 [.pointer none, .int .i64 s] H fun r H' => H' = H ∧ r = .slice none 0 0 := by
  refine fn_intro 13 Tryz.func19 rfl rfl rfl ?_
  refine walk ?_
  (first | refine ret1 (v := .slice _ _ _) (.inr rfl) rfl rfl ?_ | refine ret1  (.inr rfl) rfl rfl ?_ | refine ret1 (v := .slice _ _ _) (.inl rfl) rfl rfl ?_ | refine ret1  (.inl rfl) rfl rfl ?_)
  exact ⟨rfl, rfl⟩
theorem zP : Does Tryz.prog B 17 [.pointer none, .int .i64 p] H fun r H' => H' = H ∧ r = .int .i64 (-3) := by
  refine fn_intro 27 Tryz.func17 rfl rfl rfl ?_
  refine walk ?_
  (first | refine ret1 (v := .int _ _) (.inr rfl) rfl rfl ?_ | refine ret1  (.inr rfl) rfl rfl ?_ | refine ret1 (v := .int _ _) (.inl rfl) rfl rfl ?_ | refine ret1  (.inl rfl) rfl rfl ?_)
  exact ⟨rfl, rfl⟩
theorem zCallers : Does Tryz.prog B 41 [.pointer none] H fun r H' => H' = H ∧ r = .int .i64 0 := by
  refine fn_intro 24 Tryz.func41 rfl rfl rfl ?_
  refine walk ?_
  (first | refine ret1 (v := .int _ _) (.inr rfl) rfl rfl ?_ | refine ret1  (.inr rfl) rfl rfl ?_ | refine ret1 (v := .int _ _) (.inl rfl) rfl rfl ?_ | refine ret1  (.inl rfl) rfl rfl ?_)
  exact ⟨rfl, rfl⟩
theorem zLen : Does Tryz.prog B 31 [.pointer none] H fun r H' => H' = H ∧ r = .int .i64 0 := by
  refine fn_intro 9 Tryz.func31 rfl rfl rfl ?_
  refine walk ?_
  (first | refine ret1 (v := .int _ _) (.inr rfl) rfl rfl ?_ | refine ret1  (.inr rfl) rfl rfl ?_ | refine ret1 (v := .int _ _) (.inl rfl) rfl rfl ?_ | refine ret1  (.inl rfl) rfl rfl ?_)
  exact ⟨rfl, rfl⟩
theorem zCopy : Does Tryz.prog B 20 [.pointer none] H fun r H' => H' = H ∧ r = .pointer none := by
  refine fn_intro 35 Tryz.func20 rfl rfl rfl ?_
  refine walk ?_
  (first | refine ret1 (v := .pointer _) (.inr rfl) rfl rfl ?_ | refine ret1  (.inr rfl) rfl rfl ?_ | refine ret1 (v := .pointer _) (.inl rfl) rfl rfl ?_ | refine ret1  (.inl rfl) rfl rfl ?_)
  exact ⟨rfl, rfl⟩
end
end Go.Proofs.YtlhnmbajbhaaoaaGreat
namespace Go.Proofs.YtlhnmbajbhaaoaaGreat
open Go Go.SL
set_option linter.unusedSimpArgs false
set_option linter.unusedVariables false
set_option maxHeartbeats 1000000
/-! How many of a list are so; sums over a list. -/
theorem countP_mod {α : Type} {P : α → Bool} {f : α → α} : ∀ {l : List α} {k : Nat} {x : α}, l[k]? = some x → (l.modify k f).countP P + (if P x then 1 else 0) = l.countP P + (if P (f x) then 1 else 0)
  | [], k, x, h => by simp at h
  | y :: l, 0, x, h => by
    simp only [List.getElem?_cons_zero, Option.some.injEq] at h
    subst h
    simp only [List.modify_zero_cons, List.countP_cons]
    omega
  | y :: l, k + 1, x, h => by
    simp only [List.getElem?_cons_succ] at h
    have := countP_mod (P := P) (f := f) h
    simp only [List.modify_succ_cons, List.countP_cons]
    omega
theorem sum_mod {α : Type} {w : α → Nat} {f : α → α} : ∀ {l : List α} {k : Nat} {x : α}, l[k]? = some x → ((l.modify k f).map w).sum + w x = (l.map w).sum + w (f x)
  | [], k, x, h => by simp at h
  | y :: l, 0, x, h => by
    simp only [List.getElem?_cons_zero, Option.some.injEq] at h
    subst h
    simp only [List.modify_zero_cons, List.map_cons, List.sum_cons]
    omega
  | y :: l, k + 1, x, h => by
    simp only [List.getElem?_cons_succ] at h
    have := sum_mod (w := w) (f := f) h
    simp only [List.modify_succ_cons, List.map_cons, List.sum_cons]
    omega
theorem countP_at {α : Type} {P : α → Bool} : ∀ {l : List α} {k : Nat} {x : α}, l[k]? = some x → P x = true → 1 ≤ l.countP P := by
  intro l k x h hp
  exact List.countP_pos_iff.2 ⟨x, List.mem_of_getElem? h, hp⟩
/-- How many Ms run a goroutine; call with it; how often it waits. -/
def nRuns (ms : List Mc) (g : Int) : Nat := ms.countP fun m => decide (m.a = 2) && decide (m.g = g)
def nCalls (ms : List Mc) (g : Int) : Nat := ms.countP fun m => decide (m.a = 3) && decide (m.g = g)
def nWaits (S : SemS) (g : Int) : Nat := (S.map fun r => r.1.count g).sum
def rW (m : Mc) (g : Int) : Nat := if m.a = 2 ∧ m.g = g then 1 else 0
def cW (m : Mc) (g : Int) : Nat := if m.a = 3 ∧ m.g = g then 1 else 0
theorem nRuns_mod {ms : List Mc} {k : Nat} {m : Mc} (f : Mc → Mc) (h : ms[k]? = some m) (g : Int) : nRuns (ms.modify k f) g + rW m g = nRuns ms g + rW (f m) g := by
  have := countP_mod (P := fun m : Mc => decide (m.a = 2) && decide (m.g = g)) (f := f) h
  simp only [Bool.and_eq_true, decide_eq_true_eq] at this
  exact this
theorem nCalls_mod {ms : List Mc} {k : Nat} {m : Mc} (f : Mc → Mc) (h : ms[k]? = some m) (g : Int) : nCalls (ms.modify k f) g + cW m g = nCalls ms g + cW (f m) g := by
  have := countP_mod (P := fun m : Mc => decide (m.a = 3) && decide (m.g = g)) (f := f) h
  simp only [Bool.and_eq_true, decide_eq_true_eq] at this
  exact this
theorem nRuns_at {ms : List Mc} {k : Nat} {m : Mc} (h : ms[k]? = some m) (ha : m.a = 2) : 1 ≤ nRuns ms m.g := countP_at h (by simp [ha])
theorem nCalls_at {ms : List Mc} {k : Nat} {m : Mc} (h : ms[k]? = some m) (ha : m.a = 3) : 1 ≤ nCalls ms m.g := countP_at h (by simp [ha])
theorem nWaits_mod {S : SemS} {k : Nat} {r : List Int × Int} (f : List Int × Int → List Int × Int) (h : S[k]? = some r) (g : Int) : nWaits (S.modify k f) g + r.1.count g = nWaits S g + (f r).1.count g := sum_mod (w := fun r : List Int × Int => r.1.count g) (f := f) h
theorem nWaits_at {S : SemS} {k : Nat} {r : List Int × Int} (h : S[k]? = some r) {g : Int} (hg : g ∈ r.1) : 1 ≤ nWaits S g := by
  have h0 := nWaits_mod (fun _ => ([], 0)) h g
  have h1 := List.count_pos_iff.2 hg
  simp only [List.count_nil] at h0
  omega
theorem nWaits_zero {S : SemS} {g : Int} (h : nWaits S g = 0) : whereOf S g = none := by
  rw [where_none]
  rintro i ⟨l, c, hi, hg⟩
  have := nWaits_at hi hg
  omega
/-! The table's statuses. -/
theorem stat_tset {I : Ide} {g s : Int} (h0 : 0 ≤ g ∧ g < I.tab.all.length) (hm : may (I.stat g) s = true) (h : Int) : (I.tset g s).stat h = if h = g then s else I.stat h := by
  have hst : I.stat g = (I.tab.all[g.toNat]?.getD (0, 0)).1 := by unfold Ide.stat; rw [if_pos h0]
  rw [hst] at hm
  have e : (I.tab.set g s).2.all = I.tab.all.set g.toNat (s, (I.tab.all[g.toNat]?.getD (0, 0)).2) := by
    unfold Tab.set
    rw [if_pos h0, if_pos hm]
  unfold Ide.stat Ide.tset
  simp only [e, List.length_set]
  by_cases hh : h = g
  · subst hh
    rw [if_pos h0, if_pos rfl, List.getElem?_set_self (by omega)]
    rfl
  · rw [if_neg hh]
    split
    · rw [List.getElem?_set_ne (by omega)]
    · rfl
theorem row_tset {I : Ide} {g s : Int} (h0 : 0 ≤ g ∧ g < I.tab.all.length) (hm : may (I.stat g) s = true) : (I.tset g s).tab.row = if s = 0 then g :: I.tab.row else I.tab.row := by
  have hst : I.stat g = (I.tab.all[g.toNat]?.getD (0, 0)).1 := by unfold Ide.stat; rw [if_pos h0]
  rw [hst] at hm
  unfold Ide.tset Tab.set
  simp only [if_pos h0, if_pos hm]
theorem stat_make {I : Ide} {g : Int} {rest : List Int} (hr : I.tab.row = g :: rest) (h0 : 0 ≤ g ∧ g < I.tab.all.length) (h : Int) : ({ I with tab := I.tab.make.2.2 } : Ide).stat h = if h = g then 1 else I.stat h := by
  have e : I.tab.make.2.2.all = I.tab.all.set g.toNat (1, (I.tab.all[g.toNat]?.getD (0, 0)).2 + 1) := by
    unfold Tab.make
    rw [hr]
  unfold Ide.stat
  simp only [e, List.length_set]
  by_cases hh : h = g
  · subst hh
    rw [if_pos h0, if_pos rfl, List.getElem?_set_self (by omega)]
    rfl
  · rw [if_neg hh]
    split
    · rw [List.getElem?_set_ne (by omega)]
    · rfl
theorem row_make {I : Ide} {g : Int} {rest : List Int} (hr : I.tab.row = g :: rest) : I.tab.make.2.2.row = rest := by
  unfold Tab.make
  rw [hr]
/-! Where Ms and Ps stand. -/
/-- What an M may be. -/
structure MI (c : Cfg) (m : Mc) : Prop where
  a : 0 ≤ m.a ∧ m.a ≤ 3
  p : -1 ≤ m.p ∧ m.p < c.n
  g : -1 ≤ m.g ∧ m.g < c.g
  ga : 0 ≤ m.g ↔ 2 ≤ m.a
  rest : m.a = 0 → m.p < 0
  on : m.a = 1 ∨ m.a = 2 → 0 ≤ m.p
  began : m.a = 3 → 0 ≤ m.p → m.p = m.b
structure PP (c : Cfg) (ms : List Mc) (ps : List Int) : Prop where
  mi : ∀ (k : Nat) (m : Mc), ms[k]? = some m → MI c m ∧ (0 ≤ m.p → ps[m.p.toNat]? = some (k : Int))
  pi : ∀ (p : Nat) (v : Int), ps[p]? = some v → v = -1 ∨ v = -2 ∨ (0 ≤ v ∧ ∃ m, ms[v.toNat]? = some m ∧ m.p = (p : Int))
theorem mod_get {α : Type} {l : List α} {k j : Nat} {f : α → α} {y : α} (h : (l.modify k f)[j]? = some y) : (j = k ∧ ∃ x, l[k]? = some x ∧ y = f x) ∨ (j ≠ k ∧ l[j]? = some y) := by
  rw [List.getElem?_modify] at h
  by_cases hj : k = j
  · subst hj
    cases hx : l[k]? with
    | none => rw [hx] at h; simp at h
    | some x => rw [hx] at h; simp at h; exact .inl ⟨rfl, x, rfl, h.symm⟩
  · cases hx : l[j]? with
    | none => rw [hx] at h; simp at h
    | some x => rw [hx] at h; simp [hj] at h; exact .inr ⟨fun e => hj e.symm, by rw [h]⟩
theorem mod_at {α : Type} {l : List α} {k : Nat} {f : α → α} {x : α} (h : l[k]? = some x) : (l.modify k f)[k]? = some (f x) := by
  rw [List.getElem?_modify, h]; simp
theorem mod_ne {α : Type} {l : List α} {k j : Nat} {f : α → α} (h : j ≠ k) : (l.modify k f)[j]? = l[j]? := by
  rw [List.getElem?_modify]
  cases l[j]? with
  | none => rfl
  | some x =>
    simp
    exact fun e => absurd e.symm h
/-- An M comes to stand on a P. -/
theorem PP.place {c : Cfg} {ms : List Mc} {ps : List Int} {k kp : Nat} {old : Mc} {f : Mc → Mc} (hk : ms[k]? = some old) (hkp : kp < ps.length) (hf : (f old).p = (kp : Int)) (hn : MI c (f old))
    (h1 : ∀ (j : Nat) (m : Mc), ms[j]? = some m → j ≠ k → MI c m ∧ (0 ≤ m.p → m.p ≠ (kp : Int) ∧ ps[m.p.toNat]? = some (j : Int)))
    (h2 : ∀ (p : Nat) (v : Int), p ≠ kp → ps[p]? = some v → v = -1 ∨ v = -2 ∨ (0 ≤ v ∧ v ≠ (k : Int) ∧ ∃ m, ms[v.toNat]? = some m ∧ m.p = (p : Int))) : PP c (ms.modify k f) (ps.set kp (k : Int)) := by
  refine ⟨fun j m hj => ?_, fun p v hp => ?_⟩
  · rcases mod_get hj with ⟨rfl, x, hx, rfl⟩ | ⟨hne, hm⟩
    · rw [hk] at hx
      cases hx
      refine ⟨hn, fun _ => ?_⟩
      rw [hf, Int.toNat_natCast, List.getElem?_set_self hkp]
    · obtain ⟨a, b⟩ := h1 j m hm hne
      refine ⟨a, fun h0 => ?_⟩
      obtain ⟨b1, b2⟩ := b h0
      rw [List.getElem?_set_ne (by omega)]
      exact b2
  · by_cases hpk : p = kp
    · subst hpk
      rw [List.getElem?_set_self hkp] at hp
      cases hp
      exact .inr (.inr ⟨Int.natCast_nonneg _, f old, by rw [Int.toNat_natCast]; exact mod_at hk, hf⟩)
    · rw [List.getElem?_set_ne (by omega)] at hp
      rcases h2 p v hpk hp with h | h | ⟨h0, hne, m, hm, he⟩
      · exact .inl h
      · exact .inr (.inl h)
      · exact .inr (.inr ⟨h0, m, by rw [mod_ne (by omega)]; exact hm, he⟩)
/-- As it is mostly: the P was its own, or nobody's. -/
theorem PP.has {c : Cfg} {ms : List Mc} {ps : List Int} (h : PP c ms ps) {k kp : Nat} {old : Mc} {f : Mc → Mc} {v : Int} (hk : ms[k]? = some old) (hv : ps[kp]? = some v) (hf : (f old).p = (kp : Int)) (hn : MI c (f old))
    (ho : old.p = (kp : Int) ∨ old.p < 0) (hv2 : v = (k : Int) ∨ v < 0) : PP c (ms.modify k f) (ps.set kp (k : Int)) := by
  have hkp : kp < ps.length := (List.getElem?_eq_some_iff.1 hv).1
  refine PP.place hk hkp hf hn (fun j m hj hne => ?_) fun p w hp hw => ?_
  · obtain ⟨a, b⟩ := h.mi j m hj
    refine ⟨a, fun h0 => ⟨fun e => ?_, b h0⟩⟩
    have := b h0
    rw [e, Int.toNat_natCast, hv] at this
    cases this
    omega
  · rcases h.pi p w hw with e | e | ⟨h0, m, hm, he⟩
    · exact .inl e
    · exact .inr (.inl e)
    · refine .inr (.inr ⟨h0, fun e => ?_, m, hm, he⟩)
      rw [e, Int.toNat_natCast, hk] at hm
      cases hm
      omega
/-- An M leaves its P. -/
theorem PP.clear {c : Cfg} {ms : List Mc} {ps : List Int} (h : PP c ms ps) {k kp : Nat} {old : Mc} {f : Mc → Mc} {v : Int} (hk : ms[k]? = some old) (hf : (f old).p < 0) (hn : MI c (f old)) (ho : old.p = (kp : Int)) (hv : v = -1 ∨ v = -2) : PP c (ms.modify k f) (ps.set kp v) := by
  have hpk := (h.mi k old hk).2 (by omega)
  rw [ho, Int.toNat_natCast] at hpk
  have hkp : kp < ps.length := (List.getElem?_eq_some_iff.1 hpk).1
  refine ⟨fun j m hj => ?_, fun p w hp => ?_⟩
  · rcases mod_get hj with ⟨rfl, x, hx, rfl⟩ | ⟨hne, hm⟩
    · rw [hk] at hx
      cases hx
      exact ⟨hn, fun h0 => by omega⟩
    · obtain ⟨a, b⟩ := h.mi j m hm
      refine ⟨a, fun h0 => ?_⟩
      have b' := b h0
      rw [List.getElem?_set_ne ?_]
      · exact b'
      · intro e
        rw [← e, hpk] at b'
        cases b'
        omega
  · by_cases hpk2 : p = kp
    · subst hpk2
      rw [List.getElem?_set_self hkp] at hp
      cases hp
      rcases hv with e | e
      · exact .inl e
      · exact .inr (.inl e)
    · rw [List.getElem?_set_ne (by omega)] at hp
      rcases h.pi p w hp with e | e | ⟨h0, m, hm, he⟩
      · exact .inl e
      · exact .inr (.inl e)
      · refine .inr (.inr ⟨h0, m, ?_, he⟩)
        rw [mod_ne]
        · exact hm
        · intro e
          rw [e, hk] at hm
          cases hm
          omega
/-- An M that has no P turns. -/
theorem PP.turn {c : Cfg} {ms : List Mc} {ps : List Int} (h : PP c ms ps) {k : Nat} {old : Mc} {f : Mc → Mc} (hk : ms[k]? = some old) (hf : (f old).p = old.p) (hn : MI c (f old)) : PP c (ms.modify k f) ps := by
  refine ⟨fun j m hj => ?_, fun p w hp => ?_⟩
  · rcases mod_get hj with ⟨rfl, x, hx, rfl⟩ | ⟨hne, hm⟩
    · rw [hk] at hx
      cases hx
      refine ⟨hn, fun h0 => ?_⟩
      rw [hf] at h0 ⊢
      exact (h.mi j old hk).2 h0
    · exact h.mi j m hm
  · rcases h.pi p w hp with e | e | ⟨h0, m, hm, he⟩
    · exact .inl e
    · exact .inr (.inl e)
    · by_cases e : w.toNat = k
      · rw [e, hk] at hm
        cases hm
        exact .inr (.inr ⟨h0, f old, by rw [e]; exact mod_at hk, by rw [hf]; exact he⟩)
      · exact .inr (.inr ⟨h0, m, by rw [mod_ne e]; exact hm, he⟩)
end Go.Proofs.YtlhnmbajbhaaoaaGreat
namespace Go.Proofs.YtlhnmbajbhaaoaaGreat
open Go Go.SL
set_option linter.unusedSimpArgs false
set_option linter.unusedVariables false
set_option maxHeartbeats 2000000
structure Inv (I : Ide) (cnt : List Int) : Prop where
  pp : PP I.c I.ms I.ps
  st : ∀ g : Int, 0 ≤ g → g < I.c.g → nRuns I.ms g = (if I.stat g = 2 then 1 else 0) ∧ nCalls I.ms g = (if I.stat g = 4 then 1 else 0) ∧ nWaits I.sem g = (if I.stat g = 3 then 1 else 0)
  row : ∀ g ∈ I.tab.row, I.stat g = 0
  nd : I.tab.row.Nodup
  se : ∀ (s : Nat) (l : List Int) (c : Int), I.sem[s]? = some (l, c) → cnt[s]? = some c ∧ (∀ x ∈ l, 0 ≤ x ∧ x < I.c.g) ∧ (0 < c → l = []) ∧ 0 ≤ c ∧ c ≤ 1073741824
  cl : cnt.length = 4
  ca : (I.callers : Int) ≤ I.c.m - I.c.n
def cntS (cnt : List Int) (n : Nt) : List Int := if n.kind = 5 then cnt.modify n.x.toNat (· - 1) else if n.kind = 7 then cnt.modify n.x.toNat (· + 1) else cnt
section
variable {I : Ide} {K : Int} {n : Nt} {cnt : List Int} {m p a g s v : Int}
theorem mGet (h : 0 ≤ m ∧ m < I.ms.length) : ∃ (k : Nat) (old : Mc), m = (k : Int) ∧ I.ms[k]? = some old ∧ I.mAt m = old := by
  have hk : m.toNat < I.ms.length := by omega
  refine ⟨m.toNat, I.ms[m.toNat], by omega, List.getElem?_eq_getElem hk, ?_⟩
  unfold Ide.mAt
  rw [List.getElem?_eq_getElem hk]; rfl
theorem pGet (h : 0 ≤ p ∧ p < I.ps.length) : ∃ (k : Nat) (v : Int), p = (k : Int) ∧ I.ps[k]? = some v ∧ I.pAt p = v := by
  have hk : p.toNat < I.ps.length := by omega
  refine ⟨p.toNat, I.ps[p.toNat], by omega, List.getElem?_eq_getElem hk, ?_⟩
  unfold Ide.pAt
  rw [List.getElem?_eq_getElem hk]; rfl
theorem callers_mod {ms : List Mc} {k : Nat} {old : Mc} (f : Mc → Mc) (h : ms[k]? = some old) : (ms.modify k f).countP (fun m => decide (m.a = 3)) + (if old.a = 3 then 1 else 0) = ms.countP (fun m => decide (m.a = 3)) + (if (f old).a = 3 then 1 else 0) := by
  have := countP_mod (P := fun m : Mc => decide (m.a = 3)) (f := f) h
  simp only [decide_eq_true_eq] at this
  exact this
/-- A goroutine's status turns, with an M's. -/
theorem Inv.turn (h : Inv I cnt) {k : Nat} {old new : Mc} {ps : List Int} {T : Tab} (hk : I.ms[k]? = some old) {f : Mc → Mc} (hf : f old = new) (hpp : PP I.c (I.ms.modify k f) ps)
    (hst : ∀ x : Int, (⟨I.c, T, I.sem, I.ms, I.ps, I.many⟩ : Ide).stat x = if x = g then s else I.stat x) (hg : 0 ≤ g ∧ g < I.c.g)
    (hr : rW old g = (if I.stat g = 2 then 1 else 0) ∧ rW new g = (if s = 2 then 1 else 0)) (hc : cW old g = (if I.stat g = 4 then 1 else 0) ∧ cW new g = (if s = 4 then 1 else 0)) (hw : (I.stat g = 3 ↔ s = 3))
    (ho : ∀ x, x ≠ g → rW old x = rW new x ∧ cW old x = cW new x) (hrow : (∀ x ∈ T.row, (⟨I.c, T, I.sem, I.ms, I.ps, I.many⟩ : Ide).stat x = 0) ∧ T.row.Nodup)
    (hca : new.a = 3 → old.a = 3 ∨ (I.callers : Int) < I.c.m - I.c.n) (many : Int) : Inv ⟨I.c, T, I.sem, I.ms.modify k f, ps, many⟩ cnt := by
  have hst' : ∀ x : Int, (⟨I.c, T, I.sem, I.ms.modify k f, ps, many⟩ : Ide).stat x = if x = g then s else I.stat x := hst
  refine ⟨hpp, fun x h0 h1 => ?_, hrow.1, hrow.2, h.se, h.cl, ?_⟩
  · obtain ⟨d1, d2, d3⟩ := h.st x h0 h1
    have e1 := nRuns_mod f hk x
    have e2 := nCalls_mod f hk x
    rw [hf] at e1 e2
    rw [hst']
    by_cases hx : x = g
    · subst hx
      rw [if_pos rfl]
      refine ⟨?_, ?_, ?_⟩
      · show nRuns (I.ms.modify k f) x = _
        omega
      · show nCalls (I.ms.modify k f) x = _
        omega
      · show nWaits I.sem x = _
        rw [d3]
        by_cases h3 : I.stat x = 3
        · rw [if_pos h3, if_pos (hw.1 h3)]
        · rw [if_neg h3, if_neg fun e => h3 (hw.2 e)]
    · rw [if_neg hx]
      obtain ⟨o1, o2⟩ := ho x hx
      refine ⟨?_, ?_, d3⟩
      · show nRuns (I.ms.modify k f) x = _
        omega
      · show nCalls (I.ms.modify k f) x = _
        omega
  · have e := callers_mod f hk
    rw [hf] at e
    have hca0 := h.ca
    show (((I.ms.modify k f).countP fun m => decide (m.a = 3) : Nat) : Int) ≤ I.c.m - I.c.n
    unfold Ide.callers at hca0 hca
    by_cases hn : new.a = 3
    · rcases hca hn with ha | ha
      · rw [if_pos hn, if_pos ha] at e; omega
      · rw [if_pos hn] at e; split at e <;> omega
    · rw [if_neg hn] at e; split at e <;> omega
end
end Go.Proofs.YtlhnmbajbhaaoaaGreat
namespace Go.Proofs.YtlhnmbajbhaaoaaGreat
open Go Go.SL
set_option linter.unusedSimpArgs false
set_option linter.unusedVariables false
set_option maxHeartbeats 2000000
section
variable {I : Ide} {K : Int} {n : Nt} {cnt : List Int} {m p a g s v : Int} {k kp : Nat} {old : Mc}
/-- The row, behind a status that was not Free. -/
theorem row_turn (h : Inv I cnt) (h0 : 0 ≤ g ∧ g < I.tab.all.length) (hm : may (I.stat g) s = true) (hs0 : I.stat g ≠ 0) :
    (∀ x ∈ (I.tab.set g s).2.row, (I.tset g s).stat x = 0) ∧ (I.tab.set g s).2.row.Nodup := by
  have hr := row_tset h0 hm
  have hr' : (I.tab.set g s).2.row = if s = 0 then g :: I.tab.row else I.tab.row := hr
  have hng : g ∉ I.tab.row := fun hx => hs0 (h.row g hx)
  rw [hr']
  by_cases hs : s = 0
  · rw [if_pos hs]
    refine ⟨fun x hx => ?_, List.nodup_cons.2 ⟨hng, h.nd⟩⟩
    rw [stat_tset h0 hm]
    rcases List.mem_cons.1 hx with rfl | hx
    · rw [if_pos rfl, hs]
    · split
      · exact hs
      · exact h.row x hx
  · rw [if_neg hs]
    refine ⟨fun x hx => ?_, h.nd⟩
    rw [stat_tset h0 hm, if_neg (fun e : x = g => hng (e ▸ hx))]
    exact h.row x hx
/-- A goroutine's status is set, and an M turns with it. -/
theorem Inv.setTurn (h : Inv I cnt) (tl : (I.tab.all.length : Int) = I.c.g) {new : Mc} {ps : List Int} (hk : I.ms[k]? = some old) {f : Mc → Mc} (hf : f old = new) (hpp : PP I.c (I.ms.modify k f) ps)
    (hg : 0 ≤ g ∧ g < I.c.g) (hm : may (I.stat g) s = true) (hs0 : I.stat g ≠ 0)
    (hr : rW old g = (if I.stat g = 2 then 1 else 0) ∧ rW new g = (if s = 2 then 1 else 0)) (hc : cW old g = (if I.stat g = 4 then 1 else 0) ∧ cW new g = (if s = 4 then 1 else 0)) (hw : I.stat g ≠ 3 ∧ s ≠ 3)
    (ho : ∀ x, x ≠ g → rW old x = rW new x ∧ cW old x = cW new x) (hca : new.a = 3 → old.a = 3 ∨ (I.callers : Int) < I.c.m - I.c.n) (many : Int) :
    Inv ⟨I.c, (I.tab.set g s).2, I.sem, I.ms.modify k f, ps, many⟩ cnt := by
  have hgl : 0 ≤ g ∧ g < I.tab.all.length := by omega
  exact h.turn (g := g) (s := s) hk hf hpp (fun x => stat_tset hgl hm x) hg hr hc ⟨fun e => absurd e hw.1, fun e => absurd e hw.2⟩ ho (row_turn h hgl hm hs0) hca many
theorem stat_runs (h : Inv I cnt) (hk : I.ms[k]? = some old) (ha : old.a = 2) (hg : 0 ≤ old.g ∧ old.g < I.c.g) : I.stat old.g = 2 := by
  have h1 := nRuns_at hk ha
  have h2 := (h.st old.g hg.1 hg.2).1
  by_cases e : I.stat old.g = 2
  · exact e
  · rw [if_neg e] at h2; omega
theorem stat_calls (h : Inv I cnt) (hk : I.ms[k]? = some old) (ha : old.a = 3) (hg : 0 ≤ old.g ∧ old.g < I.c.g) : I.stat old.g = 4 := by
  have h1 := nCalls_at hk ha
  have h2 := (h.st old.g hg.1 hg.2).2.1
  by_cases e : I.stat old.g = 4
  · exact e
  · rw [if_neg e] at h2; omega
/-- A runner leaves its goroutine, and searches. -/
theorem Inv.searches (h : Inv I cnt) (tl : (I.tab.all.length : Int) = I.c.g) (hk : I.ms[k]? = some old) (ha : old.a = 2) (hp : old.p = (kp : Int)) (hs : s = 0 ∨ s = 1) (many : Int) :
    Inv ⟨I.c, (I.tab.set old.g s).2, I.sem, I.ms.modify k (fun x => { x with a := 1, p := (kp : Int), g := -1 }), I.ps.set kp (k : Int), many⟩ cnt := by
  obtain ⟨mi, mp⟩ := h.pp.mi k old hk
  have hg0 : 0 ≤ old.g := mi.ga.2 (by omega)
  have hg : 0 ≤ old.g ∧ old.g < I.c.g := ⟨hg0, mi.g.2⟩
  have hst := stat_runs h hk ha hg
  have hv : I.ps[kp]? = some (k : Int) := by have := mp (by omega); rwa [hp, Int.toNat_natCast] at this
  have mn : MI I.c { old with a := 1, p := (kp : Int), g := -1 } := ⟨by simp, by have := mi.p; simp only; omega, by have := mi.g; simp only; omega, by simp, by simp, by simp, by simp⟩
  refine h.setTurn tl hk rfl (h.pp.has (f := fun x => { x with a := 1, p := (kp : Int), g := -1 }) hk hv rfl mn (.inl hp) (.inl rfl)) hg ?_ ?_ ?_ ?_ ?_ ?_ ?_ many
  · rw [hst]; rcases hs with rfl | rfl <;> rfl
  · omega
  · rw [hst]; rcases hs with rfl | rfl <;> simp [rW, ha]
  · rw [hst]; rcases hs with rfl | rfl <;> simp [cW, ha]
  · omega
  · intro x hx; simp [rW, cW, ha]; omega
  · simp
/-- A P's M keeps it no more, or one rests: nobody's status turns. -/
theorem Inv.place (h : Inv I cnt) {ps : List Int} (hk : I.ms[k]? = some old) {f : Mc → Mc} (hpp : PP I.c (I.ms.modify k f) ps) (ho : ∀ x : Int, 0 ≤ x → rW old x = rW (f old) x ∧ cW old x = cW (f old) x) (hca : (f old).a = 3 ↔ old.a = 3) (many : Int) :
    Inv ⟨I.c, I.tab, I.sem, I.ms.modify k f, ps, many⟩ cnt := by
  refine ⟨hpp, fun x h0 h1 => ?_, h.row, h.nd, h.se, h.cl, ?_⟩
  · obtain ⟨d1, d2, d3⟩ := h.st x h0 h1
    have e1 := nRuns_mod f hk x
    have e2 := nCalls_mod f hk x
    obtain ⟨o1, o2⟩ := ho x h0
    refine ⟨?_, ?_, d3⟩
    · show nRuns (I.ms.modify k f) x = (if I.stat x = 2 then 1 else 0)
      omega
    · show nCalls (I.ms.modify k f) x = (if I.stat x = 4 then 1 else 0)
      omega
  · have e := callers_mod f hk
    have hca0 := h.ca
    show (((I.ms.modify k f).countP fun m => decide (m.a = 3) : Nat) : Int) ≤ I.c.m - I.c.n
    unfold Ide.callers at hca0
    by_cases hn : old.a = 3
    · rw [if_pos hn, if_pos (hca.2 hn)] at e; omega
    · rw [if_neg hn, if_neg (fun e => hn (hca.1 e))] at e; omega
/-- A caller comes back to a P that is idle. -/
theorem Inv.back (h : Inv I cnt) (tl : (I.tab.all.length : Int) = I.c.g) (hk : I.ms[k]? = some old) (ha : old.a = 3) (hp : old.p < 0) (hv : I.ps[kp]? = some (-1)) (hkp : (kp : Int) < I.c.n) (many : Int) :
    Inv ⟨I.c, (I.tab.set old.g 2).2, I.sem, I.ms.modify k (fun x => { x with a := 2, p := (kp : Int), g := old.g }), I.ps.set kp (k : Int), many⟩ cnt := by
  obtain ⟨mi, mp⟩ := h.pp.mi k old hk
  have hg0 : 0 ≤ old.g := mi.ga.2 (by omega)
  have hg : 0 ≤ old.g ∧ old.g < I.c.g := ⟨hg0, mi.g.2⟩
  have hst := stat_calls h hk ha hg
  have mn : MI I.c { old with a := 2, p := (kp : Int), g := old.g } := ⟨by simp, by simp only; omega, by have := mi.g; simp only; omega, by simp; omega, by simp, by simp, by simp⟩
  refine h.setTurn tl hk rfl (h.pp.has (f := fun x => { x with a := 2, p := (kp : Int), g := old.g }) hk hv rfl mn (.inr hp) (.inr (by omega))) hg ?_ ?_ ?_ ?_ ?_ ?_ ?_ many
  · rw [hst]; rfl
  · omega
  · rw [hst]; simp [rW, ha]
  · rw [hst]; simp [cW, ha]
  · omega
  · intro x hx; simp [rW, cW, ha]; omega
  · simp
end
end Go.Proofs.YtlhnmbajbhaaoaaGreat
namespace Go.Proofs.YtlhnmbajbhaaoaaGreat
open Go Go.SL
set_option linter.unusedSimpArgs false
set_option linter.unusedVariables false
set_option maxHeartbeats 4000000
section
variable {I : Ide} {K : Int} {n : Nt} {cnt : List Int} {m p a g s v : Int} {k kp : Nat} {old : Mc}
/-- A semaphore, by its number. -/
theorem sGet (hs : I.sem.length = 4) (h : 0 ≤ s ∧ s < 4) : ∃ (j : Nat) (l : List Int) (c : Int), s = (j : Int) ∧ j < 4 ∧ I.sem[j]? = some (l, c) ∧ rowS I.sem s = l ∧ I.count s = c := by
  have hj : s.toNat < I.sem.length := by omega
  refine ⟨s.toNat, I.sem[s.toNat].1, I.sem[s.toNat].2, by omega, by omega, List.getElem?_eq_getElem hj, ?_, ?_⟩
  · unfold rowS; rw [if_pos h.1, List.getElem?_eq_getElem hj]; rfl
  · unfold Ide.count; rw [if_pos h.1, List.getElem?_eq_getElem hj]; rfl
theorem se_mod {S : SemS} {G : Int} (hse : ∀ (s : Nat) (l : List Int) (c : Int), S[s]? = some (l, c) → cnt[s]? = some c ∧ (∀ x ∈ l, 0 ≤ x ∧ x < G) ∧ (0 < c → l = []) ∧ 0 ≤ c ∧ c ≤ 1073741824) {j : Nat} {l l' : List Int} {c c' : Int} (hj : S[j]? = some (l, c)) {f : List Int × Int → List Int × Int} (hf : f (l, c) = (l', c'))
    {gc : Int → Int} (hc : gc c = c') (hl : ∀ x ∈ l', 0 ≤ x ∧ x < G) (h0 : 0 < c' → l' = []) (hb : 0 ≤ c' ∧ c' ≤ 1073741824) :
    ∀ (s : Nat) (l : List Int) (c : Int), (S.modify j f)[s]? = some (l, c) → (cnt.modify j gc)[s]? = some c ∧ (∀ x ∈ l, 0 ≤ x ∧ x < G) ∧ (0 < c → l = []) ∧ 0 ≤ c ∧ c ≤ 1073741824 := by
  intro s l2 c2 h
  rcases mod_get h with ⟨rfl, x, hx, e⟩ | ⟨hne, hx⟩
  · rw [hj] at hx
    cases hx
    rw [hf] at e
    cases e
    refine ⟨?_, hl, h0, hb⟩
    rw [mod_at (hse _ _ _ hj).1, hc]
  · obtain ⟨h1, h2⟩ := hse s l2 c2 hx
    exact ⟨by rw [mod_ne hne]; exact h1, h2⟩
theorem inv_step (h : Inv I cnt) (ok : I.ok K) (hmay : mayB I n = true) : Inv (stepI I n) (cntS cnt n) := by
  obtain ⟨hk16, hr, hy⟩ := mayB_of hmay
  obtain ⟨rg, rp, rm, rx⟩ := right_of hr
  have hml := ok.ml
  have hpl := ok.pl
  have tl := ok.tl
  have sl := ok.sl
  obtain ⟨kind, g, p, m, x⟩ := n
  simp only at rg rp rm rx hk16
  have mG : 0 ≤ m ∧ m < I.c.m → ∃ (k : Nat) (old : Mc), m = (k : Int) ∧ I.ms[k]? = some old ∧ I.mAt m = old := fun h => mGet (by omega)
  have pG : 0 ≤ p ∧ p < I.c.n → ∃ (k : Nat) (v : Int), p = (k : Int) ∧ I.ps[k]? = some v ∧ I.pAt p = v := fun h => pGet (by omega)
  rcases kinds_or (n := ⟨kind, g, p, m, x⟩) hk16 with e | e | e | e | e | e | e | e | e | e | e | e | e | e | e | e <;> (simp only at e; subst e)
  · -- Born
    have hg := rg (by decide)
    have hy' : (decide ((I.mAt m).a = 2) && (decide ((I.mAt m).g = x) && decide (I.tab.row[0]? = some g))) = true := hy
    simp only [Bool.and_eq_true, decide_eq_true_eq] at hy'
    obtain ⟨_, _, hrow⟩ := hy'
    obtain ⟨rest, hrr⟩ : ∃ rest, I.tab.row = g :: rest := by
      cases hR : I.tab.row with
      | nil => rw [hR] at hrow; simp at hrow
      | cons y t => rw [hR] at hrow; simp at hrow; exact ⟨t, by rw [hrow]⟩
    have hgl : 0 ≤ g ∧ g < I.tab.all.length := by omega
    have hs0 : I.stat g = 0 := h.row g (by rw [hrr]; simp)
    have hnd := h.nd
    rw [hrr, List.nodup_cons] at hnd
    have hst : ∀ y : Int, (⟨I.c, I.tab.make.2.2, I.sem, I.ms, I.ps, I.many + 1⟩ : Ide).stat y = if y = g then 1 else I.stat y := fun y => stat_make hrr hgl y
    show Inv ⟨I.c, I.tab.make.2.2, I.sem, I.ms, I.ps, I.many + 1⟩ cnt
    refine ⟨h.pp, fun y h0 h1 => ?_, ?_, ?_, h.se, h.cl, h.ca⟩
    · obtain ⟨d1, d2, d3⟩ := h.st y h0 h1
      rw [hst]
      by_cases hyg : y = g
      · subst hyg
        rw [hs0] at d1 d2 d3
        rw [if_pos rfl]
        simp at d1 d2 d3 ⊢
        exact ⟨d1, d2, d3⟩
      · rw [if_neg hyg]; exact ⟨d1, d2, d3⟩
    · intro y hy
      have hy2 : y ∈ rest := by rw [← row_make hrr]; exact hy
      rw [hst, if_neg (fun e : y = g => hnd.1 (e ▸ hy2))]
      exact h.row y (by rw [hrr]; exact List.mem_cons_of_mem _ hy2)
    · show I.tab.make.2.2.row.Nodup
      rw [row_make hrr]; exact hnd.2
  · -- Dispatch
    have hg := rg (by decide)
    obtain ⟨k, old, rfl, hk, hA⟩ := mG (rm (by decide))
    obtain ⟨kp, v, rfl, hv, hB⟩ := pG (rp (by decide))
    have hy' : (searchesB I ⟨2, g, kp, k, x⟩ && decide (I.stat g = 1)) = true := hy
    simp only [searchesB, hA, Bool.and_eq_true, decide_eq_true_eq] at hy'
    obtain ⟨⟨a1, a2, a3⟩, hst⟩ := hy'
    obtain ⟨mi, mp⟩ := h.pp.mi k old hk
    have hv2 : I.ps[kp]? = some (k : Int) := by have := mp (by omega); rwa [a2, Int.toNat_natCast] at this
    have mn : MI I.c { old with a := 2, p := (kp : Int), g := g } := ⟨by simp, by have := mi.p; simp only; omega, by simp only; omega, by simp; omega, by simp, by simp, by simp⟩
    show Inv ⟨I.c, (I.tab.set g 2).2, I.sem, I.ms.modify (k : Int).toNat (fun x => { x with a := 2, p := (kp : Int), g := g }), if 0 ≤ (kp : Int) then I.ps.set (kp : Int).toNat (k : Int) else I.ps, I.many + 1⟩ cnt
    rw [if_pos (by omega), Int.toNat_natCast, Int.toNat_natCast]
    refine h.setTurn tl hk rfl (h.pp.has (f := fun x => { x with a := 2, p := (kp : Int), g := g }) hk hv2 rfl mn (.inl a2) (.inl rfl)) hg ?_ ?_ ?_ ?_ ?_ ?_ ?_ _
    · rw [hst]; rfl
    · omega
    · rw [hst]; simp [rW, a1]
    · rw [hst]; simp [cW, a1]
    · omega
    · intro y hy; simp [rW, cW, a1]; omega
    · simp
  · -- Yield
    obtain ⟨k, old, rfl, hk, hA⟩ := mG (rm (by decide))
    obtain ⟨kp, v, rfl, hv, hB⟩ := pG (rp (by decide))
    have hy' : runsB I ⟨3, g, kp, k, x⟩ = true := hy
    simp only [runsB, hA, decide_eq_true_eq] at hy'
    obtain ⟨a1, a2, a3⟩ := hy'
    subst a3
    show Inv ⟨I.c, (I.tab.set old.g 1).2, I.sem, I.ms.modify (k : Int).toNat (fun x => { x with a := 1, p := (kp : Int), g := -1 }), if 0 ≤ (kp : Int) then I.ps.set (kp : Int).toNat (k : Int) else I.ps, I.many + 1⟩ cnt
    rw [if_pos (by omega), Int.toNat_natCast, Int.toNat_natCast]
    exact h.searches tl hk a1 a2 (.inr rfl) _
  · -- Preempt
    obtain ⟨k, old, rfl, hk, hA⟩ := mG (rm (by decide))
    obtain ⟨kp, v, rfl, hv, hB⟩ := pG (rp (by decide))
    have hy' : runsB I ⟨4, g, kp, k, x⟩ = true := hy
    simp only [runsB, hA, decide_eq_true_eq] at hy'
    obtain ⟨a1, a2, a3⟩ := hy'
    subst a3
    show Inv ⟨I.c, (I.tab.set old.g 1).2, I.sem, I.ms.modify (k : Int).toNat (fun x => { x with a := 1, p := (kp : Int), g := -1 }), if 0 ≤ (kp : Int) then I.ps.set (kp : Int).toNat (k : Int) else I.ps, I.many + 1⟩ cnt
    rw [if_pos (by omega), Int.toNat_natCast, Int.toNat_natCast]
    exact h.searches tl hk a1 a2 (.inr rfl) _
  · -- Took
    obtain ⟨k, old, rfl, hk, hA⟩ := mG (rm (by decide))
    have hy' : (runsB I ⟨5, g, p, k, x⟩ && decide (0 < I.count x)) = true := hy
    simp only [runsB, hA, Bool.and_eq_true, decide_eq_true_eq] at hy'
    obtain ⟨⟨a1, a2, a3⟩, hc⟩ := hy'
    obtain ⟨j, l, c, rfl, hj4, hj, _, hcc⟩ := sGet sl (rx (by decide))
    rw [hcc] at hc
    have hg := rg (by decide)
    subst a3
    have hst := stat_runs h hk a1 hg
    have hnw := (h.st old.g hg.1 hg.2).2.2
    rw [hst, if_neg (by omega)] at hnw
    have hac : (acqS I.sem (j : Int) old.g).1 = I.sem.modify j fun r => (r.1, c - 1) := by
      unfold acqS
      rw [if_neg (by omega), nWaits_zero hnw]
      simp only [Option.isSome_none, Bool.false_eq_true, if_false, Int.toNat_natCast, hj, if_pos hc, countS]
    obtain ⟨s1, s2, s3, s4, s5⟩ := h.se j l c hj
    show Inv ⟨I.c, I.tab, (acqS I.sem (j : Int) old.g).1, I.ms, I.ps, I.many + 1⟩ (cnt.modify (j : Int).toNat (· - 1))
    rw [hac, Int.toNat_natCast]
    refine ⟨h.pp, fun y h0 h1 => ?_, h.row, h.nd, ?_, by rw [List.length_modify]; exact h.cl, h.ca⟩
    · obtain ⟨d1, d2, d3⟩ := h.st y h0 h1
      have e := nWaits_mod (fun r => (r.1, c - 1)) hj y
      refine ⟨d1, d2, ?_⟩
      show nWaits (I.sem.modify j fun r => (r.1, c - 1)) y = (if I.stat y = 3 then 1 else 0)
      simp only at e
      omega
    · exact se_mod h.se hj (f := fun r => (r.1, c - 1)) rfl rfl s2 (fun _ => s3 hc) (by omega)
  · -- Wait
    obtain ⟨k, old, rfl, hk, hA⟩ := mG (rm (by decide))
    obtain ⟨kp, v, rfl, hv, hB⟩ := pG (rp (by decide))
    have hy' : (runsB I ⟨6, g, kp, k, x⟩ && decide (I.count x = 0)) = true := hy
    simp only [runsB, hA, Bool.and_eq_true, decide_eq_true_eq] at hy'
    obtain ⟨⟨a1, a2, a3⟩, hc⟩ := hy'
    obtain ⟨j, l, c, rfl, hj4, hj, _, hcc⟩ := sGet sl (rx (by decide))
    rw [hcc] at hc
    have hg := rg (by decide)
    subst a3
    have hst := stat_runs h hk a1 hg
    have hnw := (h.st old.g hg.1 hg.2).2.2
    rw [hst, if_neg (by omega)] at hnw
    have hac : (acqS I.sem (j : Int) old.g).1 = I.sem.modify j fun r => (r.1 ++ [old.g], r.2) := by
      unfold acqS
      rw [if_neg (by omega), nWaits_zero hnw]
      simp only [Option.isSome_none, Bool.false_eq_true, if_false, Int.toNat_natCast, hj, if_neg (show ¬ 0 < c by omega), pushS]
    obtain ⟨s1, s2, s3, s4, s5⟩ := h.se j l c hj
    obtain ⟨mi, mp⟩ := h.pp.mi k old hk
    have hv2 : I.ps[kp]? = some (k : Int) := by have := mp (by omega); rwa [a2, Int.toNat_natCast] at this
    have mn : MI I.c { old with a := 1, p := (kp : Int), g := -1 } := ⟨by simp, by have := mi.p; simp only; omega, by have := mi.g; simp only; omega, by simp, by simp, by simp, by simp⟩
    have hgl : 0 ≤ old.g ∧ old.g < I.tab.all.length := by omega
    have hmy : may (I.stat old.g) 3 = true := by rw [hst]; rfl
    have hrw := row_turn h hgl hmy (by omega)
    show Inv ⟨I.c, (I.tab.set old.g 3).2, (acqS I.sem (j : Int) old.g).1, I.ms.modify (k : Int).toNat (fun x => { x with a := 1, p := (kp : Int), g := -1 }), if 0 ≤ (kp : Int) then I.ps.set (kp : Int).toNat (k : Int) else I.ps, I.many + 1⟩ cnt
    rw [hac, if_pos (by omega), Int.toNat_natCast, Int.toNat_natCast]
    have hs' : ∀ y : Int, (⟨I.c, (I.tab.set old.g 3).2, I.sem.modify j fun r => (r.1 ++ [old.g], r.2), I.ms.modify k (fun x => { x with a := 1, p := (kp : Int), g := -1 }), I.ps.set kp (k : Int), I.many + 1⟩ : Ide).stat y = if y = old.g then 3 else I.stat y := fun y => stat_tset hgl hmy y
    refine ⟨h.pp.has (f := fun x => { x with a := 1, p := (kp : Int), g := -1 }) hk hv2 rfl mn (.inl a2) (.inl rfl), fun y h0 h1 => ?_, hrw.1, hrw.2, ?_, h.cl, ?_⟩
    · obtain ⟨d1, d2, d3⟩ := h.st y h0 h1
      have e1 := nRuns_mod (fun x => { x with a := 1, p := (kp : Int), g := -1 }) hk y
      have e2 := nCalls_mod (fun x => { x with a := 1, p := (kp : Int), g := -1 }) hk y
      have e3 := nWaits_mod (fun r => (r.1 ++ [old.g], r.2)) hj y
      rw [hs']
      simp only [List.count_append, List.count_singleton, beq_iff_eq] at e3
      refine ⟨?_, ?_, ?_⟩
      · show nRuns (I.ms.modify k _) y = _
        by_cases hyg : y = old.g
        · subst hyg
          rw [hst] at d1
          simp [rW, a1] at e1 d1 ⊢
          omega
        · rw [if_neg hyg]
          simp [rW, a1, Ne.symm hyg] at e1
          omega
      · show nCalls (I.ms.modify k _) y = _
        by_cases hyg : y = old.g
        · subst hyg
          rw [hst] at d2
          simp [cW, a1] at e2 d2 ⊢
          omega
        · rw [if_neg hyg]
          simp [cW, a1] at e2
          omega
      · show nWaits (I.sem.modify j _) y = _
        by_cases hyg : y = old.g
        · subst hyg
          simp at e3 ⊢
          omega
        · rw [if_neg hyg]
          rw [if_neg (fun e => hyg e.symm)] at e3
          omega
    · have := se_mod (gc := id) h.se hj (f := fun r => (r.1 ++ [old.g], r.2)) (l' := l ++ [old.g]) (c' := c) rfl rfl (by
        intro y hy
        rcases List.mem_append.1 hy with e | e
        · exact s2 y e
        · rw [List.mem_singleton.1 e]; exact hg) (fun e => by omega) ⟨s4, s5⟩
      intro s l2 c2 e
      have := this s l2 c2 e
      refine ⟨?_, this.2⟩
      have h1 := this.1
      rw [List.getElem?_modify] at h1
      cases hcs : cnt[s]? with
      | none => rw [hcs] at h1; simp at h1
      | some w => rw [hcs] at h1; simpa using h1
    · have e := callers_mod (fun x => { x with a := 1, p := (kp : Int), g := -1 }) hk
      have hca0 := h.ca
      show (((I.ms.modify k _).countP fun m => decide (m.a = 3) : Nat) : Int) ≤ I.c.m - I.c.n
      unfold Ide.callers at hca0
      simp [a1] at e
      omega
  · -- Gave
    have hy' : (runsB I ⟨7, g, p, m, x⟩ && (I.first x (-1) && decide (I.count x < 1073741824))) = true := hy
    simp only [Bool.and_eq_true, decide_eq_true_eq] at hy'
    obtain ⟨_, hfi, hc⟩ := hy'
    obtain ⟨j, l, c, rfl, hj4, hj, hro, hcc⟩ := sGet sl (rx (by decide))
    rw [hcc] at hc
    have hl0 : l = [] := by
      unfold Ide.first at hfi
      rw [if_pos (by omega), hro] at hfi
      exact of_decide_eq_true hfi
    subst hl0
    obtain ⟨s1, s2, s3, s4, s5⟩ := h.se j [] c hj
    have hac : (relS I.sem (j : Int)).1 = I.sem.modify j fun r => (r.1, c + 1) := by
      unfold relS
      rw [if_neg (by omega)]
      simp only [Int.toNat_natCast, hj, if_neg (show ¬ c = 1073741824 by omega), countS]
    show Inv ⟨I.c, I.tab, (relS I.sem (j : Int)).1, I.ms, I.ps, I.many + 1⟩ (cnt.modify (j : Int).toNat (· + 1))
    rw [hac, Int.toNat_natCast]
    refine ⟨h.pp, fun y h0 h1 => ?_, h.row, h.nd, ?_, by rw [List.length_modify]; exact h.cl, h.ca⟩
    · obtain ⟨d1, d2, d3⟩ := h.st y h0 h1
      have e := nWaits_mod (fun r => (r.1, c + 1)) hj y
      refine ⟨d1, d2, ?_⟩
      show nWaits (I.sem.modify j fun r => (r.1, c + 1)) y = (if I.stat y = 3 then 1 else 0)
      simp only at e
      omega
    · exact se_mod h.se hj (f := fun r => (r.1, c + 1)) rfl rfl s2 (fun _ => rfl) (by omega)
  · -- Ready
    have hg := rg (by decide)
    have hy' : (decide ((I.mAt m).a = 2) && I.first x g) = true := hy
    simp only [Bool.and_eq_true, decide_eq_true_eq] at hy'
    obtain ⟨_, hfi⟩ := hy'
    obtain ⟨j, l, c, rfl, hj4, hj, hro, hcc⟩ := sGet sl (rx (by decide))
    obtain ⟨t, rfl⟩ : ∃ t, l = g :: t := by
      unfold Ide.first at hfi
      rw [if_neg (by omega), hro] at hfi
      have := of_decide_eq_true hfi
      cases l with
      | nil => simp at this
      | cons y t => simp at this; exact ⟨t, by rw [this]⟩
    obtain ⟨s1, s2, s3, s4, s5⟩ := h.se j _ c hj
    have hnw := nWaits_at hj (show g ∈ (g :: t, c).1 by simp)
    obtain ⟨d1, d2, d3⟩ := h.st g hg.1 hg.2
    have hst : I.stat g = 3 := by
      by_cases e : I.stat g = 3
      · exact e
      · rw [if_neg e] at d3; omega
    have hac : (relS I.sem (j : Int)).1 = I.sem.modify j fun r => (t, c) := by
      unfold relS
      rw [if_neg (by omega)]
      simp only [Int.toNat_natCast, hj]
      rw [modify_at hj]
    have hgl : 0 ≤ g ∧ g < I.tab.all.length := by omega
    have hmy : may (I.stat g) 1 = true := by rw [hst]; rfl
    have hrw := row_turn h hgl hmy (by omega)
    show Inv ⟨I.c, (I.tab.set g 1).2, (relS I.sem (j : Int)).1, I.ms, I.ps, I.many + 1⟩ cnt
    rw [hac]
    have hs' : ∀ y : Int, (⟨I.c, (I.tab.set g 1).2, I.sem.modify j fun r => (t, c), I.ms, I.ps, I.many + 1⟩ : Ide).stat y = if y = g then 1 else I.stat y := fun y => stat_tset hgl hmy y
    refine ⟨h.pp, fun y h0 h1 => ?_, hrw.1, hrw.2, ?_, h.cl, h.ca⟩
    · obtain ⟨d1, d2, d3⟩ := h.st y h0 h1
      have e3 := nWaits_mod (fun _ => (t, c)) hj y
      simp only [List.count_cons, beq_iff_eq] at e3
      rw [hs']
      by_cases hyg : y = g
      · subst hyg
        rw [hst] at d1 d2 d3
        simp at d1 d2 d3 e3 ⊢
        refine ⟨d1, d2, ?_⟩
        omega
      · rw [if_neg hyg]
        rw [if_neg (fun e => hyg e.symm)] at e3
        refine ⟨d1, d2, ?_⟩
        show nWaits (I.sem.modify j fun _ => (t, c)) y = (if I.stat y = 3 then 1 else 0)
        omega
    · have := se_mod (gc := id) h.se hj (f := fun _ => (t, c)) (l' := t) (c' := c) rfl rfl (fun y hy => s2 y (List.mem_cons_of_mem _ hy)) (fun e => by have := s3 e; cases this) ⟨s4, s5⟩
      intro s l2 c2 e
      have := this s l2 c2 e
      refine ⟨?_, this.2⟩
      have h1 := this.1
      rw [List.getElem?_modify] at h1
      cases hcs : cnt[s]? with
      | none => rw [hcs] at h1; simp at h1
      | some w => rw [hcs] at h1; simpa using h1
  · -- Exit
    obtain ⟨k, old, rfl, hk, hA⟩ := mG (rm (by decide))
    obtain ⟨kp, v, rfl, hv, hB⟩ := pG (rp (by decide))
    have hy' : runsB I ⟨9, g, kp, k, x⟩ = true := hy
    simp only [runsB, hA, decide_eq_true_eq] at hy'
    obtain ⟨a1, a2, a3⟩ := hy'
    subst a3
    show Inv ⟨I.c, (I.tab.set old.g 0).2, I.sem, I.ms.modify (k : Int).toNat (fun x => { x with a := 1, p := (kp : Int), g := -1 }), if 0 ≤ (kp : Int) then I.ps.set (kp : Int).toNat (k : Int) else I.ps, I.many + 1⟩ cnt
    rw [if_pos (by omega), Int.toNat_natCast, Int.toNat_natCast]
    exact h.searches tl hk a1 a2 (.inl rfl) _
  · -- Call
    obtain ⟨k, old, rfl, hk, hA⟩ := mG (rm (by decide))
    obtain ⟨kp, v, rfl, hv, hB⟩ := pG (rp (by decide))
    have hy' : (runsB I ⟨10, g, kp, k, x⟩ && decide ((I.callers : Int) < I.c.m - I.c.n)) = true := hy
    simp only [runsB, hA, Bool.and_eq_true, decide_eq_true_eq] at hy'
    obtain ⟨⟨a1, a2, a3⟩, hca⟩ := hy'
    have hg := rg (by decide)
    subst a3
    have hst := stat_runs h hk a1 hg
    obtain ⟨mi, mp⟩ := h.pp.mi k old hk
    have hv2 : I.ps[kp]? = some (k : Int) := by have := mp (by omega); rwa [a2, Int.toNat_natCast] at this
    have mn : MI I.c { old with a := 3, p := (kp : Int), g := old.g, b := (kp : Int) } := ⟨by simp, by have := mi.p; simp only; omega, by simp only; omega, by simp; omega, by simp, by simp, by simp⟩
    have e2 : (I.ms.modify k (fun x => { x with a := 3, p := (kp : Int), g := old.g })).modify k (fun x => { x with b := (kp : Int) }) = I.ms.modify k (fun x => { x with a := 3, p := (kp : Int), g := old.g, b := (kp : Int) }) := by
      apply List.ext_getElem?
      intro j
      simp only [List.getElem?_modify]
      cases I.ms[j]? with
      | none => rfl
      | some y => simp only [Option.map_eq_map, Option.map_some]; split <;> rfl
    show Inv ⟨I.c, (I.tab.set old.g 4).2, I.sem, (I.ms.modify (k : Int).toNat (fun x => { x with a := 3, p := (kp : Int), g := old.g })).modify (k : Int).toNat (fun x => { x with b := (kp : Int) }), if 0 ≤ (kp : Int) then I.ps.set (kp : Int).toNat (k : Int) else I.ps, I.many + 1⟩ cnt
    rw [if_pos (by omega), Int.toNat_natCast, Int.toNat_natCast, e2]
    refine h.setTurn tl hk rfl (h.pp.has (f := fun x => { x with a := 3, p := (kp : Int), g := old.g, b := (kp : Int) }) hk hv2 rfl mn (.inl a2) (.inl rfl)) hg ?_ ?_ ?_ ?_ ?_ ?_ ?_ _
    · rw [hst]; rfl
    · omega
    · rw [hst]; simp [rW, a1]
    · rw [hst]; simp [cW, a1]
    · omega
    · intro y hy; simp [rW, cW, a1]; omega
    · intro _; exact .inr hca
  · -- Back
    obtain ⟨k, old, rfl, hk, hA⟩ := mG (rm (by decide))
    obtain ⟨kp, v, rfl, hv, hB⟩ := pG (rp (by decide))
    have hkp := (rp (by decide)).2
    by_cases hx : x = 1
    · subst hx
      have hy' : (callsB I ⟨11, g, kp, k, 1⟩ && (decide ((I.mAt k).b = kp) && I.kept kp)) = true := hy
      simp only [callsB, Ide.kept, hA, hB, Bool.and_eq_true, decide_eq_true_eq] at hy'
      obtain ⟨⟨a1, a3⟩, ab, v0, va⟩ := hy'
      subst a3
      rcases h.pp.pi kp v hv with e | e | ⟨_, mv, hmv, hmp⟩
      · omega
      · omega
      have hvA : I.mAt v = mv := by unfold Ide.mAt; rw [hmv]; rfl
      rw [hvA] at va
      obtain ⟨vi, vp⟩ := h.pp.mi _ mv hmv
      have vn : MI I.c { mv with p := -1 } := ⟨vi.a, by have := vi.p; simp only; omega, vi.g, vi.ga, by simp, by simp only; omega, by simp only; omega⟩
      have hI := h.place (ps := I.ps.set kp (-1)) (f := fun x => { x with p := -1 }) hmv (h.pp.clear hmv (by show (-1 : Int) < 0; omega) vn hmp (.inl rfl)) (fun y _ => ⟨rfl, rfl⟩) Iff.rfl I.many
      have hkl : kp < I.ps.length := (List.getElem?_eq_some_iff.1 hv).1
      obtain ⟨old2, hk2, ha2, hg2, hp2⟩ : ∃ old2, (I.ms.modify v.toNat fun x => { x with p := -1 })[k]? = some old2 ∧ old2.a = 3 ∧ old2.g = old.g ∧ old2.p < 0 := by
        by_cases e : k = v.toNat
        · subst e
          rw [hk] at hmv
          cases hmv
          exact ⟨_, mod_at hk, a1, rfl, by show (-1 : Int) < 0; omega⟩
        · refine ⟨old, by rw [mod_ne e]; exact hk, a1, rfl, ?_⟩
          obtain ⟨oi, op⟩ := h.pp.mi k old hk
          by_cases hp : old.p < 0
          · exact hp
          · have e1 := oi.began a1 (by omega)
            have e2 := op (by omega)
            rw [e1, ab, Int.toNat_natCast, hv] at e2
            cases e2
            exact absurd (Int.toNat_natCast k).symm e
      have := hI.back (kp := kp) (k := k) tl hk2 ha2 hp2 (List.getElem?_set_self hkl) hkp (I.many + 1)
      rw [hg2] at this
      show Inv ⟨I.c, (I.tab.set old.g 2).2, I.sem, (I.ms.modify (I.pAt (kp : Int)).toNat fun x => { x with p := -1 }).modify (k : Int).toNat (fun x => { x with a := 2, p := (kp : Int), g := old.g }), if 0 ≤ (kp : Int) then I.ps.set (kp : Int).toNat (k : Int) else I.ps, I.many + 1⟩ cnt
      rw [if_pos (by omega), Int.toNat_natCast, Int.toNat_natCast, hB]
      have e3 : (I.ps.set kp (-1)).set kp (k : Int) = I.ps.set kp (k : Int) := List.set_set ..
      rw [← e3]
      exact this
    · have hy' : (if x = 1 then callsB I ⟨11, g, kp, k, x⟩ && (decide ((I.mAt k).b = kp) && I.kept kp) else callsB I ⟨11, g, kp, k, x⟩ && (decide ((I.mAt k).p < 0) && decide (I.pAt kp = -1))) = true := hy
      rw [if_neg hx] at hy'
      simp only [callsB, hA, hB, Bool.and_eq_true, decide_eq_true_eq] at hy'
      obtain ⟨⟨a1, a3⟩, ap, rfl⟩ := hy'
      subst a3
      show Inv (stepI I ⟨11, old.g, kp, k, x⟩) cnt
      have e : stepI I ⟨11, old.g, kp, k, x⟩ = ⟨I.c, (I.tab.set old.g 2).2, I.sem, I.ms.modify k (fun x => { x with a := 2, p := (kp : Int), g := old.g }), I.ps.set kp (k : Int), I.many + 1⟩ := by
        show (⟨_, _, _, _, _, _⟩ : Ide) = _
        have e1 : doK I ⟨11, old.g, kp, k, x⟩ = (Ide.tset (if x = 1 then I.drops kp else I) old.g 2).has k kp 2 old.g := rfl
        rw [e1, if_neg hx]
        simp [Ide.has, Ide.tset]
      rw [e]
      exact h.back tl hk a1 ap hv hkp _
  · -- Lost
    obtain ⟨k, old, rfl, hk, hA⟩ := mG (rm (by decide))
    have hy' : (callsB I ⟨12, g, p, k, x⟩ && decide ((I.mAt k).p < 0)) = true := hy
    simp only [callsB, hA, Bool.and_eq_true, decide_eq_true_eq] at hy'
    obtain ⟨⟨a1, a3⟩, ap⟩ := hy'
    have hg := rg (by decide)
    subst a3
    have hst := stat_calls h hk a1 hg
    obtain ⟨mi, mp⟩ := h.pp.mi k old hk
    have hpm : old.p = -1 := by have := mi.p; omega
    have mn : MI I.c { old with a := 0, p := -1, g := -1 } := ⟨by simp, by have := mi.p; simp only; omega, by have := mi.g; simp only; omega, by simp, by simp, by simp, by simp⟩
    show Inv ⟨I.c, (I.tab.set old.g 1).2, I.sem, I.ms.modify (k : Int).toNat (fun x => { x with a := 0, p := -1, g := -1 }), I.ps, I.many + 1⟩ cnt
    rw [Int.toNat_natCast]
    refine h.setTurn tl hk rfl (h.pp.turn (f := fun x => { x with a := 0, p := -1, g := -1 }) hk (by rw [hpm]) mn) hg ?_ ?_ ?_ ?_ ?_ ?_ ?_ _
    · rw [hst]; rfl
    · omega
    · rw [hst]; simp [rW, a1]
    · rw [hst]; simp [cW, a1]
    · omega
    · intro y hy; simp [rW, cW, a1]; omega
    · simp
  · -- Start
    obtain ⟨k, old, rfl, hk, hA⟩ := mG (rm (by decide))
    obtain ⟨kp, v, rfl, hv, hB⟩ := pG (rp (by decide))
    have hkp := (rp (by decide)).2
    have hx2 := rx (by decide)
    have hx3 : xK I.c 13 = 2 := rfl
    rw [hx3] at hx2
    have hy' : (decide ((I.mAt k).a = 0) && decide (I.pAt kp = x - 2)) = true := hy
    simp only [hA, hB, Bool.and_eq_true, decide_eq_true_eq] at hy'
    obtain ⟨a1, hvx⟩ := hy'
    obtain ⟨mi, mp⟩ := h.pp.mi k old hk
    have hpm := mi.rest a1
    have hgm : old.g < 0 := by have := mi.ga; omega
    have mn : MI I.c { old with a := 1, p := (kp : Int), g := -1 } := ⟨by simp, by simp only; omega, by have := mi.g; simp only; omega, by simp, by simp, by simp, by simp⟩
    show Inv ⟨I.c, I.tab, I.sem, I.ms.modify (k : Int).toNat (fun x => { x with a := 1, p := (kp : Int), g := -1 }), if 0 ≤ (kp : Int) then I.ps.set (kp : Int).toNat (k : Int) else I.ps, I.many + 1⟩ cnt
    rw [if_pos (by omega), Int.toNat_natCast, Int.toNat_natCast]
    exact h.place (f := fun x => { x with a := 1, p := (kp : Int), g := -1 }) hk (h.pp.has (f := fun x => { x with a := 1, p := (kp : Int), g := -1 }) hk hv rfl mn (.inr hpm) (.inr (by omega))) (fun y hy => by simp [rW, cW, a1]) (by simp [a1]) _
  · -- Park
    obtain ⟨k, old, rfl, hk, hA⟩ := mG (rm (by decide))
    obtain ⟨kp, v, rfl, hv, hB⟩ := pG (rp (by decide))
    have hy' : searchesB I ⟨14, g, kp, k, x⟩ = true := hy
    simp only [searchesB, hA, decide_eq_true_eq] at hy'
    obtain ⟨a1, a2, a3⟩ := hy'
    obtain ⟨mi, mp⟩ := h.pp.mi k old hk
    have mn : MI I.c { old with a := 0, p := -1, g := -1 } := ⟨by simp, by have := mi.p; simp only; omega, by have := mi.g; simp only; omega, by simp, by simp, by simp, by simp⟩
    show Inv ⟨I.c, I.tab, I.sem, I.ms.modify (k : Int).toNat (fun x => { x with a := 0, p := -1, g := -1 }), I.ps.set (kp : Int).toNat (-1), I.many + 1⟩ cnt
    rw [Int.toNat_natCast, Int.toNat_natCast]
    exact h.place (f := fun x => { x with a := 0, p := -1, g := -1 }) hk (h.pp.clear (f := fun x => { x with a := 0, p := -1, g := -1 }) hk (by show (-1 : Int) < 0; omega) mn a2 (.inl rfl)) (fun y hy => by simp [rW, cW, a1]) (by simp [a1]) _
  · -- Retake
    obtain ⟨kp, v, rfl, hv, hB⟩ := pG (rp (by decide))
    have hy' : I.kept kp = true := hy
    simp only [Ide.kept, hB, Bool.and_eq_true, decide_eq_true_eq] at hy'
    obtain ⟨v0, va⟩ := hy'
    rcases h.pp.pi kp v hv with e | e | ⟨_, mv, hmv, hmp⟩
    · omega
    · omega
    have hvA : I.mAt v = mv := by unfold Ide.mAt; rw [hmv]; rfl
    rw [hvA] at va
    obtain ⟨vi, vp⟩ := h.pp.mi _ mv hmv
    have vn : MI I.c { mv with p := -1 } := ⟨vi.a, by have := vi.p; simp only; omega, vi.g, vi.ga, by simp, by simp only; omega, by simp only; omega⟩
    show Inv ⟨I.c, I.tab, I.sem, I.ms.modify (I.pAt (kp : Int)).toNat (fun x => { x with p := -1 }), I.ps.set (kp : Int).toNat (-2), I.many + 1⟩ cnt
    rw [hB, Int.toNat_natCast]
    exact h.place (f := fun x => { x with p := -1 }) hmv (h.pp.clear hmv (by show (-1 : Int) < 0; omega) vn hmp (.inr rfl)) (fun y _ => ⟨rfl, rfl⟩) Iff.rfl _
  · -- Flag
    exact ⟨h.pp, h.st, h.row, h.nd, h.se, h.cl, h.ca⟩
end
end Go.Proofs.YtlhnmbajbhaaoaaGreat
namespace Go.Proofs.YtlhnmbajbhaaoaaGreat
open Go Go.SL
set_option linter.unusedSimpArgs false
set_option linter.unusedVariables false
set_option maxHeartbeats 2000000
theorem new_row (m : Nat) (h : 1 ≤ m) : ∃ rest, (Tab.new m).row = 0 :: rest ∧ (∀ x ∈ rest, x ≠ 0) ∧ rest.Nodup := by
  have hn : ((List.range m).map fun (i : Nat) => (i : Int)).Nodup := by
    exact List.pairwise_map.2 (List.Pairwise.imp (fun {a b} (h : a ≠ b) => fun e => h (by omega)) List.nodup_range)
  obtain ⟨k, rfl⟩ : ∃ k, m = k + 1 := ⟨m - 1, by omega⟩
  have e : (Tab.new (k + 1)).row = 0 :: ((List.range k).map Nat.succ).map fun (i : Nat) => (i : Int) := by
    show (List.range (k + 1)).map (fun (i : Nat) => (i : Int)) = _
    rw [List.range_succ_eq_map]
    rfl
  refine ⟨_, e, ?_, ?_⟩
  · intro x hx
    simp only [List.mem_map] at hx
    obtain ⟨a, ⟨b, _, rfl⟩, rfl⟩ := hx
    omega
  · have hn' : (Tab.new (k + 1)).row.Nodup := hn
    rw [e] at hn'
    exact (List.nodup_cons.1 hn').2
theorem inv_new {c : Cfg} (hc : RightP c) : Inv (newI c) [c.s, c.s, c.s, c.s] := by
  have ok := new_ok hc
  obtain ⟨r, c1, c2, c3, c4, c5, c6, c7, c8, c9, c10⟩ := hc
  obtain ⟨rest, hr, hne, hnd⟩ := new_row c.g.toNat (by omega)
  have hst0 : ∀ y : Int, (⟨c, Tab.new c.g.toNat, newS 4 c.s, List.replicate c.m.toNat restM, List.replicate c.n.toNat (-1), 0⟩ : Ide).stat y = 0 := by
    intro y
    unfold Ide.stat
    split
    · show ((List.replicate c.g.toNat ((0 : Int), (0 : Int)))[y.toNat]?.getD (0, 0)).1 = 0
      rw [List.getElem?_replicate]
      split <;> rfl
    · rfl
  have hgl : 0 ≤ (0 : Int) ∧ (0 : Int) < (Tab.new c.g.toNat).all.length := by
    show 0 ≤ (0 : Int) ∧ (0 : Int) < ((List.replicate c.g.toNat ((0 : Int), (0 : Int))).length : Int)
    rw [List.length_replicate]; omega
  have hst : ∀ y : Int, (newI0 c).stat y = if y = 0 then 1 else 0 := by
    intro y
    have := stat_make (I := ⟨c, Tab.new c.g.toNat, newS 4 c.s, List.replicate c.m.toNat restM, List.replicate c.n.toNat (-1), 0⟩) hr hgl y
    rw [hst0] at this
    exact this
  have hm0 : (newI0 c).ms[0]? = some restM := by
    show (List.replicate c.m.toNat restM)[0]? = some restM
    rw [List.getElem?_replicate, if_pos (by omega)]
  have hp0 : (newI0 c).ps[0]? = some (-1) := by
    show (List.replicate c.n.toNat (-1 : Int))[0]? = some (-1)
    rw [List.getElem?_replicate, if_pos (by omega)]
  have mr : MI c restM := ⟨by simp [restM], by simp [restM]; omega, by simp [restM]; omega, by simp [restM], by simp [restM], by simp [restM], by simp [restM]⟩
  have h0 : Inv (newI0 c) [c.s, c.s, c.s, c.s] := by
    refine ⟨⟨fun k m hm => ?_, fun p v hp => ?_⟩, fun g g0 g1 => ?_, ?_, ?_, ?_, rfl, ?_⟩
    · have := List.eq_of_mem_replicate (List.mem_of_getElem? hm)
      subst this
      exact ⟨mr, fun h => by simp [restM] at h⟩
    · have := List.eq_of_mem_replicate (List.mem_of_getElem? hp)
      exact .inl this
    · rw [hst]
      refine ⟨?_, ?_, ?_⟩
      · show (List.replicate c.m.toNat restM).countP _ = _
        rw [List.countP_replicate]
        simp [restM]
        split <;> simp
      · show (List.replicate c.m.toNat restM).countP _ = _
        rw [List.countP_replicate]
        simp [restM]
        split <;> simp
      · show nWaits (newS 4 c.s) g = _
        simp [nWaits, newS, List.replicate]
        split <;> simp
    · intro g hg
      have hg' : g ∈ rest := by rw [← row_make (I := ⟨c, Tab.new c.g.toNat, newS 4 c.s, List.replicate c.m.toNat restM, List.replicate c.n.toNat (-1), 0⟩) hr]; exact hg
      rw [hst, if_neg (hne g hg')]
    · show ((Tab.new c.g.toNat).make.2.2).row.Nodup
      rw [row_make (I := ⟨c, Tab.new c.g.toNat, newS 4 c.s, List.replicate c.m.toNat restM, List.replicate c.n.toNat (-1), 0⟩) hr]
      exact hnd
    · intro s l x hs
      have hs4 : s < 4 := by
        have := (List.getElem?_eq_some_iff.1 hs).1
        simpa [newI0, newS] using this
      have he := List.eq_of_mem_replicate (List.mem_of_getElem? hs)
      cases he
      refine ⟨?_, by simp, by simp, by omega, by omega⟩
      match s, hs4 with
      | 0, _ => rfl
      | 1, _ => rfl
      | 2, _ => rfl
      | 3, _ => rfl
    · show (((List.replicate c.m.toNat restM).countP fun m => decide (m.a = 3) : Nat) : Int) ≤ c.m - c.n
      rw [List.countP_replicate]
      simp [restM]
      omega
  have mn : MI c { restM with a := 1, p := ((0 : Nat) : Int), g := -1 } := ⟨by simp, by simp only; omega, by simp only; omega, by simp, by simp, by simp, by simp [restM]⟩
  have := h0.place (k := 0) (f := fun x => { x with a := 1, p := ((0 : Nat) : Int), g := -1 }) hm0 (h0.pp.has (kp := 0) (k := 0) (f := fun x => { x with a := 1, p := ((0 : Nat) : Int), g := -1 }) hm0 hp0 rfl mn (.inr (by simp [restM])) (.inr (by omega))) (fun y hy => by simp [rW, cW, restM]) (by simp [restM]) 0
  exact this
/-! Tallies. -/
def tal {α : Type} (q : α → Nat → Bool) (N : Nat) (l : List α) : List Int := (List.range N).map fun i => (l.countP (fun x => q x i) : Int)
section
variable {α : Type} {q : α → Nat → Bool} {N : Nat} {l : List α} {x : α} {i : Nat}
theorem tal_len : (tal q N l).length = N := by simp [tal]
theorem tal_get (h : i < N) : (tal q N l)[i]? = some (l.countP (fun x => q x i) : Int) := by
  simp [tal, h]
theorem tal_nil : tal q N [] = List.replicate N 0 := by
  apply List.ext_getElem?
  intro i
  by_cases h : i < N
  · rw [tal_get h, List.getElem?_replicate, if_pos h]; rfl
  · rw [List.getElem?_eq_none (by rw [tal_len]; omega), List.getElem?_eq_none (by simp; omega)]
theorem tal_key (hi : i < N) (hq : ∀ j, j < N → q x j = decide (j = i)) : (tal q N l).set i ((l.countP (fun x => q x i) : Int) + 1) = tal q N (l ++ [x]) := by
  apply List.ext_getElem?
  intro j
  by_cases h : j < N
  · rw [tal_get h]
    by_cases e : j = i
    · subst e
      rw [List.getElem?_set_self (by rw [tal_len]; exact hi), List.countP_append]
      simp [List.countP_cons, hq j hi]
    · rw [List.getElem?_set_ne (fun h => e h.symm), tal_get h, List.countP_append]
      simp [List.countP_cons, hq j h, e]
  · rw [List.getElem?_eq_none (by rw [List.length_set, tal_len]; omega), List.getElem?_eq_none (by rw [tal_len]; omega)]
theorem tal_none (hq : ∀ j, j < N → q x j = false) : tal q N (l ++ [x]) = tal q N l := by
  apply List.ext_getElem?
  intro j
  by_cases h : j < N
  · rw [tal_get h, tal_get h, List.countP_append]
    simp [List.countP_cons, hq j h]
  · rw [List.getElem?_eq_none (by rw [tal_len]; omega), List.getElem?_eq_none (by rw [tal_len]; omega)]
end
def qR (m : Mc) (i : Nat) : Bool := decide (m.a = 2) && decide (m.g = (i : Int))
def qC (m : Mc) (i : Nat) : Bool := decide (m.a = 3) && decide (m.g = (i : Int))
def qP (m : Mc) (i : Nat) : Bool := decide (m.p = (i : Int))
def qW (x : Int) (i : Nat) : Bool := decide (x = (i : Int))
/-- All that wait. -/
def allW (S : SemS) : List Int := (S.map (·.1)).flatten
theorem allW_count (S : SemS) (g : Nat) : (allW S).countP (fun x => qW x g) = nWaits S (g : Int) := by
  unfold allW nWaits
  rw [List.countP_flatten, List.map_map]
  congr 1
theorem countP_one {α : Type} {P : α → Bool} : ∀ {l : List α} {k : Nat} {x : α}, l[k]? = some x → P x = true → (∀ (j : Nat) (y : α), l[j]? = some y → j ≠ k → P y = false) → l.countP P = 1
  | [], k, x, h, _, _ => by simp at h
  | y :: l, 0, x, h, hp, hn => by
    simp only [List.getElem?_cons_zero, Option.some.injEq] at h
    subst h
    rw [List.countP_cons, if_pos hp, List.countP_eq_zero.2]
    intro z hz
    obtain ⟨j, hj, rfl⟩ := List.getElem_of_mem hz
    have := hn (j + 1) l[j] (by rw [List.getElem?_cons_succ]; exact List.getElem?_eq_getElem hj) (by omega)
    rw [this]; simp
  | y :: l, k + 1, x, h, hp, hn => by
    simp only [List.getElem?_cons_succ] at h
    have hy := hn 0 y rfl (by omega)
    rw [List.countP_cons, hy]
    simpa using countP_one h hp fun j z hj hne => hn (j + 1) z (by rw [List.getElem?_cons_succ]; exact hj) (by omega)
/-- How many Ms have a P. -/
theorem PP.count {c : Cfg} {ms : List Mc} {ps : List Int} (h : PP c ms ps) {p : Nat} {v : Int} (hv : ps[p]? = some v) : (ms.countP (fun m => qP m p) = 0 ∧ (v = -1 ∨ v = -2)) ∨ (ms.countP (fun m => qP m p) = 1 ∧ 0 ≤ v) := by
  rcases h.pi p v hv with e | e | ⟨h0, m, hm, he⟩
  · refine .inl ⟨?_, .inl e⟩
    rw [List.countP_eq_zero]
    intro m hm hq
    obtain ⟨j, hj, rfl⟩ := List.getElem_of_mem hm
    have e1 : (ms[j]).p = (p : Int) := of_decide_eq_true hq
    have := (h.mi j _ (List.getElem?_eq_getElem hj)).2 (by omega)
    rw [e1, Int.toNat_natCast, hv] at this
    cases this
    omega
  · refine .inl ⟨?_, .inr e⟩
    rw [List.countP_eq_zero]
    intro m hm hq
    obtain ⟨j, hj, rfl⟩ := List.getElem_of_mem hm
    have e1 : (ms[j]).p = (p : Int) := of_decide_eq_true hq
    have := (h.mi j _ (List.getElem?_eq_getElem hj)).2 (by omega)
    rw [e1, Int.toNat_natCast, hv] at this
    cases this
    omega
  · refine .inr ⟨countP_one hm (decide_eq_true he) fun j y hj hne => ?_, h0⟩
    refine decide_eq_false fun e1 => ?_
    have := (h.mi j y hj).2 (by omega)
    rw [e1, Int.toNat_natCast, hv] at this
    cases this
    omega
end Go.Proofs.YtlhnmbajbhaaoaaGreat
