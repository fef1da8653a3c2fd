/- What may be: each kind of notes. No condition. -/
import Derived.Test.YtlhnmbajbhaaoaaIdId2
namespace Go.Proofs.Ytlhnmbajbhaaoaa
open Go Go.SL
set_option linter.unusedSimpArgs false
set_option linter.unusedVariables false
set_option maxRecDepth 10000
set_option maxHeartbeats 2000000
attribute [local irreducible] WP WPL QSeq QBlk QRet Does Cell Cells Rd Mine Ent Aside RV Yield TabAt SemAt
section
variable {B : World} {H F G : HProp} {x : Nat} {L : IdL} {n : Nt} {m p a g s : Int} {k j : Nat} {K : Int}
theorem ide_cell {v : Value} (hv : (ideC L)[j]? = some v) : Cell B (IdeAt x L) x j v := by
  unfold IdeAt
  exact Cell.blk hv
theorem ide_m (hk : k < L.I.ms.length) {v : Value} (hj : j < 4) (hv : (mcC L.I.ms[k])[j]? = some v) : Cell B (IdeAt x L) L.bm (k * 4 + j) v := by
  unfold IdeAt
  exact (m_cell hk hj hv).ent ((Ent.drop_left _ _).trans (Ent.drop_right _ _))
theorem ide_p (hk : k < L.I.ps.length) : Cell B (IdeAt x L) L.bp k (.int .i64 L.I.ps[k]) := by
  unfold IdeAt
  exact (p_cell hk).ent ((Ent.drop_left _ _).trans ((Ent.drop_left _ _).trans (Ent.drop_right _ _)))
instance ideTab : HasAt TabAt (IdeAt x L) L.q L.I.tab (blk x (ideC L) 56 + (blk L.bm (mcs L.I.ms ++ L.sm) 61 + (blk L.bp (zs L.I.ps ++ L.sp) 3 + SemAt L.s L.I.sem))) := ⟨by unfold IdeAt; ac_rfl⟩
instance ideSem : HasAt SemAt (IdeAt x L) L.s L.I.sem (blk x (ideC L) 56 + (blk L.bm (mcs L.I.ms ++ L.sm) 61 + (blk L.bp (zs L.I.ps ++ L.sp) 3 + TabAt L.q L.I.tab))) := ⟨by unfold IdeAt; ac_rfl⟩
theorem iStat [i : HasAt IdeAt H x L F] : Does Try.prog B 28 [ptr L.q, .int .i64 g] H fun r H' => H' = H ∧ r = .tuple #[.int .i64 (L.I.stat g), .bool (decide (0 ≤ g ∧ g < L.I.tab.all.length))] := by
  rw [i.eq]
  refine (tStatus (p := L.q) (T := L.I.tab) (g := g)).weak fun r H' ⟨e, hr⟩ => ⟨_, Ent.refl _, e, ?_⟩
  rw [hr]
  unfold Ide.stat
  by_cases h : 0 ≤ g ∧ g < L.I.tab.all.length
  · rw [if_pos h, if_pos h, decide_eq_true h]
  · rw [if_neg h, if_neg h, decide_eq_false h]
theorem iCount [i : HasAt IdeAt H x L F] : Does Try.prog B 30 [ptr L.s, .int .i64 s] H fun r H' => H' = H ∧ r = .int .i64 (L.I.count s) := by
  rw [i.eq]
  exact sCountA (p := L.s) (S := L.I.sem) (k := s)
theorem rowS_all (hk : ∀ (i : Nat) (l : List Int) (y : Int), L.I.sem[i]? = some (l, y) → (l.length : Int) ≤ K) (hK : K ≤ 100000) : LOk L.I.sem := fun i l y h => by have := hk i l y h; omega
theorem iFirst [i : HasAt IdeAt H x L F] (hl : LOk L.I.sem) : Does Try.prog B 52 [ptr x, .int .i64 s, .int .i64 g] H fun r H' => H' = H ∧ r = .bool (L.I.first s g) := by
  have z0 : Cell B (IdeAt x L) x 0 (.int .i64 L.I.c.n) := ide_cell rfl
  have z3 : Cell B (IdeAt x L) x 3 (.int .i64 L.I.c.m) := ide_cell rfl
  have z6 : Cell B (IdeAt x L) x 6 (ptr L.q) := ide_cell rfl
  have z7 : Cell B (IdeAt x L) x 7 (ptr L.s) := ide_cell rfl
  have z8 : Cell B (IdeAt x L) x 8 (.slice (some ⟨L.bm, 0, none⟩) L.I.ms.length L.cm) := ide_cell rfl
  have z9 : Cell B (IdeAt x L) x 9 (.slice (some ⟨L.bp, 0, none⟩) L.I.ps.length L.cp) := ide_cell rfl
  rw [i.eq]
  unfold Ide.first
  refine Does.frame0 ?_
  obtain ⟨R, hR⟩ : ∃ R, rowS L.I.sem s = R := ⟨_, rfl⟩
  rw [hR]
  by_cases hg : g < 0
  · rw [if_pos hg]
    cases R with
    | nil =>
      refine fn_intro 29 Try.func52 rfl rfl rfl ?_
      refine walk ?_
      refine s_call rfl (sWaitingA (p := L.s) (S := L.I.sem) (k := s) hl) rfl ?_
      rintro r _ rfl
      refine WPL.shape ?_
      rintro ao cap rfl hl1 hl2 hl3
      refine WPL.rd fun rd => ?_
      rw [hR]
      simp only [List.length_nil, List.length_cons]
      refine walk ?_
      (first | (apply retRD1 (G := (IdeAt x L + F)) (.inr rfl) rfl; (· first | (refine rv_tmp (v := .bool _) rfl) | exact rv_tmp rfl); (· exact Ent.auto)) | (apply retRD1 (G := (IdeAt x L + F)) (.inl rfl) rfl; (· first | (refine rv_tmp (v := .bool _) rfl) | exact rv_tmp rfl); (· exact Ent.auto)))
      exact ⟨Ent.refl _, rfl⟩
    | cons y R =>
      refine fn_intro 29 Try.func52 rfl rfl rfl ?_
      refine walk ?_
      refine s_call rfl (sWaitingA (p := L.s) (S := L.I.sem) (k := s) hl) rfl ?_
      rintro r _ rfl
      refine WPL.shape ?_
      rintro ao cap rfl hl1 hl2 hl3
      refine WPL.rd fun rd => ?_
      rw [hR]
      simp only [List.length_nil, List.length_cons]
      refine walk ?_
      (first | (apply retRD1 (G := (IdeAt x L + F)) (.inr rfl) rfl; (· first | (refine rv_tmp (v := .bool _) rfl) | exact rv_tmp rfl); (· exact Ent.auto)) | (apply retRD1 (G := (IdeAt x L + F)) (.inl rfl) rfl; (· first | (refine rv_tmp (v := .bool _) rfl) | exact rv_tmp rfl); (· exact Ent.auto)))
      exact ⟨Ent.refl _, rfl⟩
  · rw [if_neg hg]
    cases R with
    | nil =>
      refine fn_intro 29 Try.func52 rfl rfl rfl ?_
      refine walk ?_
      refine s_call rfl (sWaitingA (p := L.s) (S := L.I.sem) (k := s) hl) rfl ?_
      rintro r _ rfl
      refine WPL.shape ?_
      rintro ao cap rfl hl1 hl2 hl3
      refine WPL.rd fun rd => ?_
      rw [hR]
      simp only [List.length_nil, List.length_cons]
      refine walk ?_
      (first | (apply retRD1 (G := (IdeAt x L + F)) (.inr rfl) rfl; (· first | (refine rv_tmp (v := .bool _) rfl) | exact rv_tmp rfl); (· exact Ent.auto)) | (apply retRD1 (G := (IdeAt x L + F)) (.inl rfl) rfl; (· first | (refine rv_tmp (v := .bool _) rfl) | exact rv_tmp rfl); (· exact Ent.auto)))
      exact ⟨Ent.refl _, rfl⟩
    | cons y R =>
      by_cases hy : y = g
      · skip
        refine fn_intro 29 Try.func52 rfl rfl rfl ?_
        refine walk ?_
        refine s_call rfl (sWaitingA (p := L.s) (S := L.I.sem) (k := s) hl) rfl ?_
        rintro r _ rfl
        refine WPL.shape ?_
        rintro ao cap rfl hl1 hl2 hl3
        refine WPL.rd fun rd => ?_
        rw [hR] at rd ⊢
        simp only [List.length_cons] at rd ⊢
        obtain ⟨ao', cap', hv, _, _, hc⟩ := (by unfold Rd at rd; exact rd)
        obtain ⟨b, o, rfl, hcs⟩ := Rd.addr (k := 0) (by rw [zs_length, Nat.mul_one]) hc (by simp)
        cases hv
        have hcell := hcs.cell (j := 0) rfl
        refine walk ?_
        (first | refine step_wanted rfl rfl ?_ | skip)
        (apply s_indexAddr (j := 0) (o' := o); (· exact rfl); (· exact rfl); (· omega); (· omega); (· omega); (· exact rfl))
        refine walk ?_
        (first | (apply retRD1 (G := (IdeAt x L + F)) (.inr rfl) rfl; (· first | (refine rv_tmp (v := .bool _) rfl) | exact rv_tmp rfl); (· exact Ent.auto)) | (apply retRD1 (G := (IdeAt x L + F)) (.inl rfl) rfl; (· first | (refine rv_tmp (v := .bool _) rfl) | exact rv_tmp rfl); (· exact Ent.auto)))
        exact ⟨Ent.refl _, by simp [hy]⟩
      · skip
        refine fn_intro 29 Try.func52 rfl rfl rfl ?_
        refine walk ?_
        refine s_call rfl (sWaitingA (p := L.s) (S := L.I.sem) (k := s) hl) rfl ?_
        rintro r _ rfl
        refine WPL.shape ?_
        rintro ao cap rfl hl1 hl2 hl3
        refine WPL.rd fun rd => ?_
        rw [hR] at rd ⊢
        simp only [List.length_cons] at rd ⊢
        obtain ⟨ao', cap', hv, _, _, hc⟩ := (by unfold Rd at rd; exact rd)
        obtain ⟨b, o, rfl, hcs⟩ := Rd.addr (k := 0) (by rw [zs_length, Nat.mul_one]) hc (by simp)
        cases hv
        have hcell := hcs.cell (j := 0) rfl
        refine walk ?_
        (first | refine step_wanted rfl rfl ?_ | skip)
        (apply s_indexAddr (j := 0) (o' := o); (· exact rfl); (· exact rfl); (· omega); (· omega); (· omega); (· exact rfl))
        refine walk ?_
        (first | (apply retRD1 (G := (IdeAt x L + F)) (.inr rfl) rfl; (· first | (refine rv_tmp (v := .bool _) rfl) | exact rv_tmp rfl); (· exact Ent.auto)) | (apply retRD1 (G := (IdeAt x L + F)) (.inl rfl) rfl; (· first | (refine rv_tmp (v := .bool _) rfl) | exact rv_tmp rfl); (· exact Ent.auto)))
        exact ⟨Ent.refl _, by simp [hy]⟩
theorem callers_take (hk : k < L.I.ms.length) : (L.I.ms.take (k + 1)).countP (fun m => decide (m.a = 3)) = (L.I.ms.take k).countP (fun m => decide (m.a = 3)) + if L.I.ms[k].a = 3 then 1 else 0 := by
  rw [List.take_succ_eq_append_getElem hk, List.countP_append]
  simp [List.countP_cons]
theorem ide_c4 (hk : k < L.I.ms.length) : Cells B (IdeAt x L) L.bm (k * 4) (mcC L.I.ms[k]) := by
  have h : Cells B (blk L.bm (mcs L.I.ms ++ L.sm) 61) L.bm (k * 4) (mcC L.I.ms[k]) := by
    rw [← HProp.add_emp (blk L.bm (mcs L.I.ms ++ L.sm) 61)]
    exact Cells.blk fun j v hj => by
      have hj4 : j < 4 := (List.getElem?_eq_some_iff.1 hj).1
      rw [mcs_at hk hj4]; exact hj
  unfold IdeAt
  exact h.ent ((Ent.drop_left _ _).trans (Ent.drop_right _ _))
theorem iCallers [i : HasAt IdeAt H x L F] (hl : L.I.ms.length ≤ 16) : Does Try.prog B 17 [ptr x] H fun r H' => H' = H ∧ r = .int .i64 (L.I.callers : Int) := by
  have z0 : Cell B (IdeAt x L) x 0 (.int .i64 L.I.c.n) := ide_cell rfl
  have z3 : Cell B (IdeAt x L) x 3 (.int .i64 L.I.c.m) := ide_cell rfl
  have z6 : Cell B (IdeAt x L) x 6 (ptr L.q) := ide_cell rfl
  have z7 : Cell B (IdeAt x L) x 7 (ptr L.s) := ide_cell rfl
  have z8 : Cell B (IdeAt x L) x 8 (.slice (some ⟨L.bm, 0, none⟩) L.I.ms.length L.cm) := ide_cell rfl
  have z9 : Cell B (IdeAt x L) x 9 (.slice (some ⟨L.bp, 0, none⟩) L.I.ps.length L.cp) := ide_cell rfl
  rw [i.eq]
  refine Does.frame0 ?_
  refine fn_intro 24 Try.func17 rfl rfl rfl ?_
  refine walk ?_
  refine wp_loopF (α := Nat) [2, 4, 12, 13, 14, 15, 16, 17, 18, 19, 20, 21, 22] (fun k => [(12, .int .i64 k), (2, .int .i64 ((L.I.ms.take k).countP (fun m => decide (m.a = 3)) : Nat))]) (fun _ => IdeAt x L + F) (fun k => k ≤ L.I.ms.length) (fun k => L.I.ms.length - k) 0 agreed (Ent.refl _) (by omega) ?_
  intro k f hk
  simp only [putAll]
  by_cases hlt : k < L.I.ms.length
  · have c4 := ide_c4 (B := B) (x := x) hlt
    have c4' : Cells B (IdeAt x L) L.bm (0 + k * 4) (mcC L.I.ms[k]) := by rw [Nat.zero_add]; exact c4
    have ct := callers_take hlt
    have cb := List.countP_le_length (p := fun m : Mc => decide (m.a = 3)) (l := L.I.ms.take k)
    rw [List.length_take] at cb
    refine walk ?_
    refine s_alloc rfl ?_
    intro b
    refine walk ?_
    refine s_storeW (vs := mcC L.I.ms[k]) (cs := [.int .i64 0, .int .i64 0, .int .i64 0, .int .i64 0]) rfl rfl rfl rfl rfl ?_
    by_cases h3 : L.I.ms[k].a = 3
    · rw [if_pos h3] at ct
      refine walk ?_
      exact ⟨k + 1, asided, agreed, Ent.auto, by omega, by omega⟩
    · rw [if_neg h3] at ct
      refine walk ?_
      exact ⟨k + 1, asided, agreed, Ent.auto, by omega, by omega⟩
  · have e : L.I.ms.take k = L.I.ms := List.take_of_length_le (by omega)
    rw [e]
    refine walk ?_
    (first | (apply retRD1 (G := (IdeAt x L + F)) (.inr rfl) rfl; (· first | (refine rv_tmp (v := .int _ _) rfl) | exact rv_tmp rfl); (· exact Ent.auto)) | (apply retRD1 (G := (IdeAt x L + F)) (.inl rfl) rfl; (· first | (refine rv_tmp (v := .int _ _) rfl) | exact rv_tmp rfl); (· exact Ent.auto)))
    exact ⟨Ent.refl _, rfl⟩
end
end Go.Proofs.Ytlhnmbajbhaaoaa
