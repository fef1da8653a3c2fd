/- What notes do: each kind, by its function. No condition. -/
import Derived.Test.YtlhnmbajbhaaoaaIdId3
namespace Go.Proofs.Ytlhnmbajbhaaoaa
open Go Go.SL
set_option linter.unusedSimpArgs false
set_option linter.unusedVariables false
set_option maxRecDepth 10000
set_option maxHeartbeats 2000000
attribute [local irreducible] WP WPL QSeq QBlk QRet Does Cell Cells Rd Mine Ent Aside RV Yield TabAt SemAt
section
variable {B : World} {H F G : HProp} {x : Nat} {L : IdL} {n : Nt} {m p a g s st : Int} {k j : Nat} {K : Int}
theorem iTset [i : HasAt IdeAt H x L F] (ok : L.I.tab.ok K) (hK : K ≤ 100000) : Does Try.prog B 45 [ptr L.q, .int .i64 g, .int .i64 st] H fun r H' => H' = IdeAt x (L.put (L.I.tset g st)) + F ∧ r = .int .i64 (L.I.tab.set g st).1 := by
  rw [i.eq]
  refine (tSet (p := L.q) (T := L.I.tab) (g := g) (x := st) ok hK).weak fun r H' ⟨e, hr⟩ => ⟨_, ?_, rfl, hr⟩
  rw [e, ide_open]
  exact Ent.ac (by simp only [IdL.put, Ide.tset]; ac_rfl)
theorem iMake [i : HasAt IdeAt H x L F] (ok : L.I.tab.ok K) (hK : K ≤ 100000) : Does Try.prog B 24 [ptr L.q] H fun r H' => H' = IdeAt x (L.put { L.I with tab := L.I.tab.make.2.2 }) + F ∧ r = .tuple #[.int .i64 L.I.tab.make.1, .int .i64 L.I.tab.make.2.1] := by
  rw [i.eq]
  refine (tMake (p := L.q) (T := L.I.tab) ok hK).weak fun r H' ⟨e, hr⟩ => ⟨_, ?_, rfl, hr⟩
  rw [e, ide_open]
  exact Ent.ac (by simp only [IdL.put]; ac_rfl)
theorem iAcq [i : HasAt IdeAt H x L F] : Does Try.prog B 48 [ptr L.s, .int .i64 s, .int .i64 g] H fun r H' => H' = IdeAt x (L.put { L.I with sem := (acqS L.I.sem s g).1 }) + F ∧ r = .tuple #[.bool (acqS L.I.sem s g).2.1, .int .i64 (acqS L.I.sem s g).2.2] := by
  rw [i.eq]
  refine (sAcquireA (p := L.s) (S := L.I.sem) (k := s) (g := g)).weak fun r H' ⟨e, hr⟩ => ⟨_, ?_, rfl, hr⟩
  rw [e, ide_open]
  exact Ent.ac (by simp only [IdL.put]; ac_rfl)
theorem iRel [i : HasAt IdeAt H x L F] : Does Try.prog B 54 [ptr L.s, .int .i64 s] H fun r H' => H' = IdeAt x (L.put { L.I with sem := (relS L.I.sem s).1 }) + F ∧ r = .tuple #[.int .i64 (relS L.I.sem s).2.1, .bool (relS L.I.sem s).2.2.1, .int .i64 (relS L.I.sem s).2.2.2] := by
  rw [i.eq]
  refine (sReleaseA (p := L.s) (S := L.I.sem) (k := s)).weak fun r H' ⟨e, hr⟩ => ⟨_, ?_, rfl, hr⟩
  rw [e, ide_open]
  exact Ent.ac (by simp only [IdL.put]; ac_rfl)
abbrev ideJ (L : IdL) (J : Ide) : List Value := [.int .i64 J.c.n, .int .i64 J.c.q, .int .i64 J.c.g, .int .i64 J.c.m, .int .i64 J.c.t, .int .i64 J.c.s, ptr L.q, ptr L.s,
  .slice (some ⟨L.bm, 0, none⟩) J.ms.length L.cm, .slice (some ⟨L.bp, 0, none⟩) J.ps.length L.cp, .int .i64 J.many]
theorem ide_openP {J : Ide} : IdeAt x (L.put J) + F = blk x (ideJ L J) 56 + (blk L.bm (mcs J.ms ++ L.sm) 61 + (blk L.bp (zs J.ps ++ L.sp) 3 + (TabAt L.q J.tab + (SemAt L.s J.sem + F)))) := ide_open
attribute [local irreducible] IdeAt
theorem dSearchesOn [i : HasAt IdeAt H x L F] (hm : 0 ≤ n.m ∧ n.m < L.I.ms.length) (hp : 0 ≤ n.p ∧ n.p < L.I.ps.length) (ok : L.I.tab.ok K) (hK : K ≤ 100000) : Does Try.prog B 38 [ptr x, noteV n, .int .i64 st] H fun r H' => H' = IdeAt x (L.put ((L.I.tset n.g st).has n.m n.p 1 (-1))) + F ∧ r = .tuple #[] := by
  have z6 : Cell B (IdeAt x L) x 6 (ptr L.q) := ide_cell rfl
  have z7 : Cell B (IdeAt x L) x 7 (ptr L.s) := ide_cell rfl
  rw [i.eq]
  refine Does.same ?_
  refine fn_intro 20 Try.func38 rfl rfl rfl ?_
  refine walk ?_
  refine s_box (cs := nv n) rfl rfl rfl ?_
  intro b
  refine walk ?_
  (refine wp_draw [7] (.look 0 (.look 1 (.look 2 (.look 3 (.look 4 (.look 5 (.look 6 (.act 7 .nil .stop)))))))) (by kernel_rfl) ?_; (apply dw_pure; (· exact rfl); (· exact rfl); (· (intro G; exact looked))); (apply dw_pure; (· exact rfl); (· exact rfl); (· (intro G; exact looked))); (apply dw_pure; (· exact rfl); (· exact rfl); (· (intro G; exact looked))); (apply dw_look; (· exact rfl); (· exact rfl); (· (exact looked))); (apply dw_pure; (· exact rfl); (· exact rfl); (· (intro G; exact looked))); (apply dw_look; (· exact rfl); (· exact rfl); (· (exact looked))); (apply dw_pure; (· exact rfl); (· exact rfl); (· (intro G; exact looked))); skip)
  refine dw_do rfl rfl ?_ dw_stop
  refine s_call rfl (iTset (x := x) (L := L) (g := n.g) (st := st) ok hK) rfl ?_
  rintro _ _ ⟨rfl, rfl⟩
  refine wpl_nil (qone ⟨(by refine st_past (by kernel_rfl) ?_; refine st_past (by kernel_rfl) ?_; exact st_nil), ?_⟩)
  (refine dw_nil ?_; skip)
  refine walk ?_
  refine s_call rfl (iHas (x := x) (L := L.put (L.I.tset n.g st)) (m := n.m) (p := n.p) (a := 1) (g := -1) hm hp) rfl ?_
  rintro _ _ ⟨rfl, rfl⟩
  refine walk ?_
  exact QRet.ent (G := IdeAt x (L.put ((L.I.tset n.g st).has n.m n.p 1 (-1))) + F) Ent.auto (ret0 (.inl rfl) rfl ⟨Ent.refl _, rfl⟩)
theorem d1 [i : HasAt IdeAt H x L F] (hm : 0 ≤ n.m ∧ n.m < L.I.ms.length) (hp : 0 ≤ n.p ∧ n.p < L.I.ps.length) (ok : L.I.tab.ok K) (hK : K ≤ 100000) : Does Try.prog B 37 [ptr x, noteV n] H fun r H' => H' = IdeAt x (L.put ((L.I.tset n.g 1).has n.m n.p 1 (-1))) + F ∧ r = .tuple #[] := by
  have z6 : Cell B (IdeAt x L) x 6 (ptr L.q) := ide_cell rfl
  have z7 : Cell B (IdeAt x L) x 7 (ptr L.s) := ide_cell rfl
  rw [i.eq]
  refine Does.same ?_
  refine fn_intro 7 Try.func37 rfl rfl rfl ?_
  refine walk ?_
  refine s_box (cs := nv n) rfl rfl rfl ?_
  intro b
  refine walk ?_
  refine s_call rfl (dSearchesOn (x := x) (L := L) (n := n) (st := 1) hm hp ok hK) rfl ?_
  rintro _ _ ⟨rfl, rfl⟩
  refine walk ?_
  exact QRet.ent (G := IdeAt x (L.put ((L.I.tset n.g 1).has n.m n.p 1 (-1))) + F) Ent.auto (ret0 (.inl rfl) rfl ⟨Ent.refl _, rfl⟩)
theorem d14 [i : HasAt IdeAt H x L F] (hm : 0 ≤ n.m ∧ n.m < L.I.ms.length) (hp : 0 ≤ n.p ∧ n.p < L.I.ps.length) (ok : L.I.tab.ok K) (hK : K ≤ 100000) : Does Try.prog B 57 [ptr x, noteV n] H fun r H' => H' = IdeAt x (L.put ((L.I.tset n.g 0).has n.m n.p 1 (-1))) + F ∧ r = .tuple #[] := by
  have z6 : Cell B (IdeAt x L) x 6 (ptr L.q) := ide_cell rfl
  have z7 : Cell B (IdeAt x L) x 7 (ptr L.s) := ide_cell rfl
  rw [i.eq]
  refine Does.same ?_
  refine fn_intro 7 Try.func57 rfl rfl rfl ?_
  refine walk ?_
  refine s_box (cs := nv n) rfl rfl rfl ?_
  intro b
  refine walk ?_
  refine s_call rfl (dSearchesOn (x := x) (L := L) (n := n) (st := 0) hm hp ok hK) rfl ?_
  rintro _ _ ⟨rfl, rfl⟩
  refine walk ?_
  exact QRet.ent (G := IdeAt x (L.put ((L.I.tset n.g 0).has n.m n.p 1 (-1))) + F) Ent.auto (ret0 (.inl rfl) rfl ⟨Ent.refl _, rfl⟩)
theorem d3 [i : HasAt IdeAt H x L F] (ok : L.I.tab.ok K) (hK : K ≤ 100000) : Does Try.prog B 41 [ptr x, noteV n] H fun r H' => H' = IdeAt x (L.put ({ L.I with tab := L.I.tab.make.2.2 })) + F ∧ r = .tuple #[] := by
  have z6 : Cell B (IdeAt x L) x 6 (ptr L.q) := ide_cell rfl
  have z7 : Cell B (IdeAt x L) x 7 (ptr L.s) := ide_cell rfl
  rw [i.eq]
  refine Does.same ?_
  refine fn_intro 9 Try.func41 rfl rfl rfl ?_
  refine walk ?_
  refine s_box (cs := nv n) rfl rfl rfl ?_
  intro b
  refine walk ?_
  refine s_call rfl (iMake (x := x) (L := L) ok hK) rfl ?_
  rintro _ _ ⟨rfl, rfl⟩
  refine walk ?_
  exact QRet.ent (G := IdeAt x (L.put ({ L.I with tab := L.I.tab.make.2.2 })) + F) Ent.auto (ret0 (.inl rfl) rfl ⟨Ent.refl _, rfl⟩)
theorem d5 [i : HasAt IdeAt H x L F] (hm : 0 ≤ n.m ∧ n.m < L.I.ms.length) (hp : 0 ≤ n.p ∧ n.p < L.I.ps.length) (ok : L.I.tab.ok K) (hK : K ≤ 100000) : Does Try.prog B 44 [ptr x, noteV n] H fun r H' => H' = IdeAt x (L.put ((L.I.tset n.g 2).has n.m n.p 2 n.g)) + F ∧ r = .tuple #[] := by
  have z6 : Cell B (IdeAt x L) x 6 (ptr L.q) := ide_cell rfl
  have z7 : Cell B (IdeAt x L) x 7 (ptr L.s) := ide_cell rfl
  rw [i.eq]
  refine Does.same ?_
  refine fn_intro 19 Try.func44 rfl rfl rfl ?_
  refine walk ?_
  refine s_box (cs := nv n) rfl rfl rfl ?_
  intro b
  refine walk ?_
  (refine wp_draw [6] (.look 0 (.look 1 (.look 2 (.look 3 (.look 4 (.look 5 (.act 6 .nil .stop))))))) (by kernel_rfl) ?_; (apply dw_pure; (· exact rfl); (· exact rfl); (· (intro G; exact looked))); (apply dw_pure; (· exact rfl); (· exact rfl); (· (intro G; exact looked))); (apply dw_pure; (· exact rfl); (· exact rfl); (· (intro G; exact looked))); (apply dw_look; (· exact rfl); (· exact rfl); (· (exact looked))); (apply dw_pure; (· exact rfl); (· exact rfl); (· (intro G; exact looked))); (apply dw_look; (· exact rfl); (· exact rfl); (· (exact looked))); skip)
  refine dw_do rfl rfl ?_ dw_stop
  refine s_call rfl (iTset (x := x) (L := L) (g := n.g) (st := 2) ok hK) rfl ?_
  rintro _ _ ⟨rfl, rfl⟩
  refine wpl_nil (qone ⟨(by refine st_past (by kernel_rfl) ?_; refine st_past (by kernel_rfl) ?_; exact st_nil), ?_⟩)
  (refine dw_nil ?_; skip)
  refine walk ?_
  refine s_call rfl (iHas (x := x) (L := L.put (L.I.tset n.g 2)) (m := n.m) (p := n.p) (a := 2) (g := n.g) hm hp) rfl ?_
  rintro _ _ ⟨rfl, rfl⟩
  refine walk ?_
  exact QRet.ent (G := IdeAt x (L.put ((L.I.tset n.g 2).has n.m n.p 2 n.g)) + F) Ent.auto (ret0 (.inl rfl) rfl ⟨Ent.refl _, rfl⟩)
theorem d7 [i : HasAt IdeAt H x L F]  : Does Try.prog B 47 [ptr x, noteV n] H fun r H' => H' = IdeAt x (L.put ({ L.I with sem := (acqS L.I.sem n.x n.g).1 })) + F ∧ r = .tuple #[] := by
  have z6 : Cell B (IdeAt x L) x 6 (ptr L.q) := ide_cell rfl
  have z7 : Cell B (IdeAt x L) x 7 (ptr L.s) := ide_cell rfl
  rw [i.eq]
  refine Does.same ?_
  refine fn_intro 13 Try.func47 rfl rfl rfl ?_
  refine walk ?_
  refine s_box (cs := nv n) rfl rfl rfl ?_
  intro b
  refine walk ?_
  (refine wp_draw [8] (.look 0 (.look 1 (.look 2 (.look 3 (.look 4 (.look 5 (.look 6 (.look 7 (.act 8 .nil .stop))))))))) (by kernel_rfl) ?_; (apply dw_pure; (· exact rfl); (· exact rfl); (· (intro G; exact looked))); (apply dw_pure; (· exact rfl); (· exact rfl); (· (intro G; exact looked))); (apply dw_pure; (· exact rfl); (· exact rfl); (· (intro G; exact looked))); (apply dw_look; (· exact rfl); (· exact rfl); (· (exact looked))); (apply dw_pure; (· exact rfl); (· exact rfl); (· (intro G; exact looked))); (apply dw_look; (· exact rfl); (· exact rfl); (· (exact looked))); (apply dw_pure; (· exact rfl); (· exact rfl); (· (intro G; exact looked))); (apply dw_look; (· exact rfl); (· exact rfl); (· (exact looked))); skip)
  refine dw_do rfl rfl ?_ dw_stop
  refine s_call rfl (iAcq (x := x) (L := L) (s := n.x) (g := n.g)) rfl ?_
  rintro _ _ ⟨rfl, rfl⟩
  refine wpl_nil (qone ⟨(by refine st_past (by kernel_rfl) ?_; refine st_past (by kernel_rfl) ?_; refine st_past (by kernel_rfl) ?_; exact st_nil), ?_⟩)
  (refine dw_nil ?_; skip)
  refine walk ?_
  exact QRet.ent (G := IdeAt x (L.put ({ L.I with sem := (acqS L.I.sem n.x n.g).1 })) + F) Ent.auto (ret0 (.inl rfl) rfl ⟨Ent.refl _, rfl⟩)
theorem d9 [i : HasAt IdeAt H x L F] (hm : 0 ≤ n.m ∧ n.m < L.I.ms.length) (hp : 0 ≤ n.p ∧ n.p < L.I.ps.length) (ok : L.I.tab.ok K) (hK : K ≤ 100000) : Does Try.prog B 50 [ptr x, noteV n] H fun r H' => H' = IdeAt x (L.put ((Ide.tset { L.I with sem := (acqS L.I.sem n.x n.g).1 } n.g 3).has n.m n.p 1 (-1))) + F ∧ r = .tuple #[] := by
  have z6 : Cell B (IdeAt x L) x 6 (ptr L.q) := ide_cell rfl
  have z7 : Cell B (IdeAt x L) x 7 (ptr L.s) := ide_cell rfl
  rw [i.eq]
  refine Does.same ?_
  refine fn_intro 16 Try.func50 rfl rfl rfl ?_
  refine walk ?_
  refine s_box (cs := nv n) rfl rfl rfl ?_
  intro b
  refine walk ?_
  (refine wp_draw [8] (.look 0 (.look 1 (.look 2 (.look 3 (.look 4 (.look 5 (.look 6 (.look 7 (.act 8 .nil .stop))))))))) (by kernel_rfl) ?_; (apply dw_pure; (· exact rfl); (· exact rfl); (· (intro G; exact looked))); (apply dw_pure; (· exact rfl); (· exact rfl); (· (intro G; exact looked))); (apply dw_pure; (· exact rfl); (· exact rfl); (· (intro G; exact looked))); (apply dw_look; (· exact rfl); (· exact rfl); (· (exact looked))); (apply dw_pure; (· exact rfl); (· exact rfl); (· (intro G; exact looked))); (apply dw_look; (· exact rfl); (· exact rfl); (· (exact looked))); (apply dw_pure; (· exact rfl); (· exact rfl); (· (intro G; exact looked))); (apply dw_look; (· exact rfl); (· exact rfl); (· (exact looked))); skip)
  refine dw_do rfl rfl ?_ dw_stop
  refine s_call rfl (iAcq (x := x) (L := L) (s := n.x) (g := n.g)) rfl ?_
  rintro _ _ ⟨rfl, rfl⟩
  refine wpl_nil (qone ⟨(by refine st_past (by kernel_rfl) ?_; refine st_past (by kernel_rfl) ?_; refine st_past (by kernel_rfl) ?_; exact st_nil), ?_⟩)
  (refine dw_nil ?_; skip)
  refine walk ?_
  refine s_call rfl (dSearchesOn (x := x) (L := L.put { L.I with sem := (acqS L.I.sem n.x n.g).1 }) (n := n) (st := 3) hm hp ok hK) rfl ?_
  rintro _ _ ⟨rfl, rfl⟩
  refine walk ?_
  exact QRet.ent (G := IdeAt x (L.put ((Ide.tset { L.I with sem := (acqS L.I.sem n.x n.g).1 } n.g 3).has n.m n.p 1 (-1))) + F) Ent.auto (ret0 (.inl rfl) rfl ⟨Ent.refl _, rfl⟩)
theorem d11 [i : HasAt IdeAt H x L F]  : Does Try.prog B 53 [ptr x, noteV n] H fun r H' => H' = IdeAt x (L.put ({ L.I with sem := (relS L.I.sem n.x).1 })) + F ∧ r = .tuple #[] := by
  have z6 : Cell B (IdeAt x L) x 6 (ptr L.q) := ide_cell rfl
  have z7 : Cell B (IdeAt x L) x 7 (ptr L.s) := ide_cell rfl
  rw [i.eq]
  refine Does.same ?_
  refine fn_intro 11 Try.func53 rfl rfl rfl ?_
  refine walk ?_
  refine s_box (cs := nv n) rfl rfl rfl ?_
  intro b
  refine walk ?_
  (refine wp_draw [6] (.look 0 (.look 1 (.look 2 (.look 3 (.look 4 (.look 5 (.act 6 .nil .stop))))))) (by kernel_rfl) ?_; (apply dw_pure; (· exact rfl); (· exact rfl); (· (intro G; exact looked))); (apply dw_pure; (· exact rfl); (· exact rfl); (· (intro G; exact looked))); (apply dw_pure; (· exact rfl); (· exact rfl); (· (intro G; exact looked))); (apply dw_look; (· exact rfl); (· exact rfl); (· (exact looked))); (apply dw_pure; (· exact rfl); (· exact rfl); (· (intro G; exact looked))); (apply dw_look; (· exact rfl); (· exact rfl); (· (exact looked))); skip)
  refine dw_do rfl rfl ?_ dw_stop
  refine s_call rfl (iRel (x := x) (L := L) (s := n.x)) rfl ?_
  rintro _ _ ⟨rfl, rfl⟩
  refine wpl_nil (qone ⟨(by refine st_past (by kernel_rfl) ?_; refine st_past (by kernel_rfl) ?_; exact st_nil), ?_⟩)
  (refine dw_nil ?_; skip)
  refine walk ?_
  exact QRet.ent (G := IdeAt x (L.put ({ L.I with sem := (relS L.I.sem n.x).1 })) + F) Ent.auto (ret0 (.inl rfl) rfl ⟨Ent.refl _, rfl⟩)
theorem d13 [i : HasAt IdeAt H x L F] (ok : L.I.tab.ok K) (hK : K ≤ 100000) : Does Try.prog B 56 [ptr x, noteV n] H fun r H' => H' = IdeAt x (L.put (Ide.tset { L.I with sem := (relS L.I.sem n.x).1 } n.g 1)) + F ∧ r = .tuple #[] := by
  have z6 : Cell B (IdeAt x L) x 6 (ptr L.q) := ide_cell rfl
  have z7 : Cell B (IdeAt x L) x 7 (ptr L.s) := ide_cell rfl
  rw [i.eq]
  refine Does.same ?_
  refine fn_intro 18 Try.func56 rfl rfl rfl ?_
  refine walk ?_
  refine s_box (cs := nv n) rfl rfl rfl ?_
  intro b
  refine walk ?_
  (refine wp_draw [6] (.look 0 (.look 1 (.look 2 (.look 3 (.look 4 (.look 5 (.act 6 .nil .stop))))))) (by kernel_rfl) ?_; (apply dw_pure; (· exact rfl); (· exact rfl); (· (intro G; exact looked))); (apply dw_pure; (· exact rfl); (· exact rfl); (· (intro G; exact looked))); (apply dw_pure; (· exact rfl); (· exact rfl); (· (intro G; exact looked))); (apply dw_look; (· exact rfl); (· exact rfl); (· (exact looked))); (apply dw_pure; (· exact rfl); (· exact rfl); (· (intro G; exact looked))); (apply dw_look; (· exact rfl); (· exact rfl); (· (exact looked))); skip)
  refine dw_do rfl rfl ?_ dw_stop
  refine s_call rfl (iRel (x := x) (L := L) (s := n.x)) rfl ?_
  rintro _ _ ⟨rfl, rfl⟩
  refine wpl_nil (qone ⟨(by refine st_past (by kernel_rfl) ?_; refine st_past (by kernel_rfl) ?_; exact st_nil), ?_⟩)
  (refine dw_nil ?_; skip)
  have y6 : Cell B (IdeAt x (L.put { L.I with sem := (relS L.I.sem n.x).1 })) x 6 (ptr L.q) := ide_cell rfl
  refine walk ?_
  (refine wp_draw [6] (.look 0 (.look 1 (.look 2 (.look 3 (.look 4 (.look 5 (.act 6 .nil .stop))))))) (by kernel_rfl) ?_; (apply dw_pure; (· exact rfl); (· exact rfl); (· (intro G; exact looked))); (apply dw_pure; (· exact rfl); (· exact rfl); (· (intro G; exact looked))); (apply dw_pure; (· exact rfl); (· exact rfl); (· (intro G; exact looked))); (apply dw_look; (· exact rfl); (· exact rfl); (· (exact looked))); (apply dw_pure; (· exact rfl); (· exact rfl); (· (intro G; exact looked))); (apply dw_look; (· exact rfl); (· exact rfl); (· (exact looked))); skip)
  refine dw_do rfl rfl ?_ dw_stop
  refine s_call rfl (iTset (x := x) (L := L.put { L.I with sem := (relS L.I.sem n.x).1 }) (g := n.g) (st := 1) ok hK) rfl ?_
  rintro _ _ ⟨rfl, rfl⟩
  refine wpl_nil (qone ⟨(by refine st_past (by kernel_rfl) ?_; refine st_past (by kernel_rfl) ?_; exact st_nil), ?_⟩)
  (refine dw_nil ?_; skip)
  refine walk ?_
  exact QRet.ent (G := IdeAt x (L.put (Ide.tset { L.I with sem := (relS L.I.sem n.x).1 } n.g 1)) + F) Ent.auto (ret0 (.inl rfl) rfl ⟨Ent.refl _, rfl⟩)
theorem d16 [i : HasAt IdeAt H x L F] (hm : 0 ≤ n.m ∧ n.m < L.I.ms.length) (hp : 0 ≤ n.p ∧ n.p < L.I.ps.length) (ok : L.I.tab.ok K) (hK : K ≤ 100000) : Does Try.prog B 59 [ptr x, noteV n] H fun r H' => H' = IdeAt x (L.put (let J := (L.I.tset n.g 4).has n.m n.p 3 n.g; { J with ms := J.ms.modify n.m.toNat fun x => { x with b := n.p } })) + F ∧ r = .tuple #[] := by
  have z6 : Cell B (IdeAt x L) x 6 (ptr L.q) := ide_cell rfl
  have z7 : Cell B (IdeAt x L) x 7 (ptr L.s) := ide_cell rfl
  rw [i.eq]
  refine Does.same ?_
  obtain ⟨k, hk, hmk, _⟩ := mAt_of hm
  have hmt : n.m.toNat = k := by omega
  obtain ⟨J1, hJ1⟩ : ∃ J1, (L.I.tset n.g 4).has n.m n.p 3 n.g = J1 := ⟨_, rfl⟩
  have hl : J1.ms.length = L.I.ms.length := by rw [← hJ1]; simp only [Ide.has, Ide.tset, List.length_modify]
  have hk1 : k < J1.ms.length := by omega
  have hml : (mcs J1.ms).length = J1.ms.length * 4 := mcs_len _
  have y8 : Cell B (IdeAt x (L.put J1)) x 8 (.slice (some ⟨L.bm, 0, none⟩) J1.ms.length L.cm) := ide_cell rfl
  rw [hJ1, hmt]
  refine fn_intro 29 Try.func59 rfl rfl rfl ?_
  refine walk ?_
  refine s_box (cs := nv n) rfl rfl rfl ?_
  intro b
  refine walk ?_
  (refine wp_draw [6] (.look 0 (.look 1 (.look 2 (.look 3 (.look 4 (.look 5 (.act 6 .nil .stop))))))) (by kernel_rfl) ?_; (apply dw_pure; (· exact rfl); (· exact rfl); (· (intro G; exact looked))); (apply dw_pure; (· exact rfl); (· exact rfl); (· (intro G; exact looked))); (apply dw_pure; (· exact rfl); (· exact rfl); (· (intro G; exact looked))); (apply dw_look; (· exact rfl); (· exact rfl); (· (exact looked))); (apply dw_pure; (· exact rfl); (· exact rfl); (· (intro G; exact looked))); (apply dw_look; (· exact rfl); (· exact rfl); (· (exact looked))); skip)
  refine dw_do rfl rfl ?_ dw_stop
  refine s_call rfl (iTset (x := x) (L := L) (g := n.g) (st := 4) ok hK) rfl ?_
  rintro _ _ ⟨rfl, rfl⟩
  refine wpl_nil (qone ⟨(by refine st_past (by kernel_rfl) ?_; refine st_past (by kernel_rfl) ?_; exact st_nil), ?_⟩)
  (refine dw_nil ?_; skip)
  refine walk ?_
  refine s_call rfl (iHas (x := x) (L := L.put (L.I.tset n.g 4)) (m := n.m) (p := n.p) (a := 3) (g := n.g) hm hp) rfl ?_
  rintro _ _ ⟨rfl, rfl⟩
  rw [show IdeAt x ((L.put (L.I.tset n.g 4)).put ((L.put (L.I.tset n.g 4)).I.has n.m n.p 3 n.g)) = IdeAt x (L.put J1) by rw [← hJ1]]
  refine walk ?_
  (refine wp_draw [10] (.look 0 (.look 1 (.look 2 (.look 3 (.look 4 (.look 5 (.look 6 (.look 7 (.look 8 (.look 9 (.act 10 .nil .stop))))))))))) (by kernel_rfl) ?_; (apply dw_pure; (· exact rfl); (· exact rfl); (· (intro G; exact looked))); (apply dw_pure; (· exact rfl); (· exact rfl); (· (intro G; exact looked))); (apply dw_pure; (· exact rfl); (· exact rfl); (· (intro G; exact looked))); (apply dw_look; (· exact rfl); (· exact rfl); (· (exact looked))); (apply dw_pure; (· exact rfl); (· exact rfl); (· (intro G; exact looked))); (apply dw_look; (· exact rfl); (· exact rfl); (· (exact looked))); (apply dw_pure; (· exact rfl); (· exact rfl); (· (intro G; exact looked))); (apply dw_look; (· exact rfl); (· exact rfl); (· (exact looked))); (apply dw_pure; (· exact rfl); (· exact rfl); (· (intro G; (apply s_indexAddr (j := k) (o' := k * 4); (· exact rfl); (· exact rfl); (· omega); (· omega); (· omega); (· exact rfl)); exact looked))); (apply dw_pure; (· exact rfl); (· exact rfl); (· (intro G; exact looked))); skip)
  refine dw_do0 rfl rfl ?_ dw_stop
  rw [ide_openP]
  refine s_store (v := .int .i64 n.p) (cs' := mcs (J1.ms.modify k fun x => { x with b := n.p }) ++ L.sm) rfl rfl rfl ?_ (mcs_setB hk1 _ _) ?_
  · simp only [List.length_append]; omega
  refine wpl_nil (qone0 ⟨(by refine st_past (by kernel_rfl) ?_; refine st_past (by kernel_rfl) ?_; refine st_past (by kernel_rfl) ?_; exact st_nil), ?_⟩)
  (refine dw_nil ?_; skip)
  refine walk ?_
  refine ret0 (.inl rfl) rfl ⟨?_, rfl⟩
  rw [ide_openP]
  simp only [ideJ, List.length_modify]
  exact Ent.auto
theorem dComes [i : HasAt IdeAt H x L F] (hm : 0 ≤ n.m ∧ n.m < L.I.ms.length) (hp : 0 ≤ n.p ∧ n.p < L.I.ps.length) (ok : L.I.tab.ok K) (hK : K ≤ 100000) (hv : n.x = 1 → 0 ≤ L.I.pAt n.p ∧ L.I.pAt n.p < L.I.ms.length) : Does Try.prog B 61 [ptr x, noteV n] H fun r H' => H' = IdeAt x (L.put ((Ide.tset (if n.x = 1 then L.I.drops n.p else L.I) n.g 2).has n.m n.p 2 n.g)) + F ∧ r = .tuple #[] := by
  have z6 : Cell B (IdeAt x L) x 6 (ptr L.q) := ide_cell rfl
  have z7 : Cell B (IdeAt x L) x 7 (ptr L.s) := ide_cell rfl
  rw [i.eq]
  refine Does.same ?_
  by_cases hx : n.x = 1
  · rw [if_pos hx]
    have hm2 : 0 ≤ n.m ∧ n.m < (L.put (L.I.drops n.p)).I.ms.length := by simp only [IdL.put, Ide.drops, List.length_modify]; exact hm
    have y6 : Cell B (IdeAt x (L.put (L.I.drops n.p))) x 6 (ptr L.q) := ide_cell rfl
    refine fn_intro 26 Try.func61 rfl rfl rfl ?_
    refine walk ?_
    refine s_box (cs := nv n) rfl rfl rfl ?_
    intro b
    refine walk ?_
    refine s_call rfl (iDrops (x := x) (L := L) (p := n.p) hp (hv hx)) rfl ?_
    rintro _ _ ⟨rfl, rfl⟩
    refine walk ?_
    (refine wp_draw [6] (.look 0 (.look 1 (.look 2 (.look 3 (.look 4 (.look 5 (.act 6 .nil .stop))))))) (by kernel_rfl) ?_; (apply dw_pure; (· exact rfl); (· exact rfl); (· (intro G; exact looked))); (apply dw_pure; (· exact rfl); (· exact rfl); (· (intro G; exact looked))); (apply dw_pure; (· exact rfl); (· exact rfl); (· (intro G; exact looked))); (apply dw_look; (· exact rfl); (· exact rfl); (· (exact looked))); (apply dw_pure; (· exact rfl); (· exact rfl); (· (intro G; exact looked))); (apply dw_look; (· exact rfl); (· exact rfl); (· (exact looked))); skip)
    refine dw_do rfl rfl ?_ dw_stop
    refine s_call rfl (iTset (x := x) (L := L.put (L.I.drops n.p)) (g := n.g) (st := 2) ok hK) rfl ?_
    rintro _ _ ⟨rfl, rfl⟩
    refine wpl_nil (qone ⟨(by refine st_past (by kernel_rfl) ?_; refine st_past (by kernel_rfl) ?_; exact st_nil), ?_⟩)
    (refine dw_nil ?_; skip)
    refine walk ?_
    refine s_call rfl (iHas (x := x) (L := L.put (Ide.tset (L.I.drops n.p) n.g 2)) (m := n.m) (p := n.p) (a := 2) (g := n.g) hm2 hp) rfl ?_
    rintro _ _ ⟨rfl, rfl⟩
    refine walk ?_
    exact QRet.ent (G := IdeAt x (L.put ((Ide.tset (L.I.drops n.p) n.g 2).has n.m n.p 2 n.g)) + F) Ent.auto (ret0 (.inl rfl) rfl ⟨Ent.refl _, rfl⟩)
  · rw [if_neg hx]
    refine fn_intro 26 Try.func61 rfl rfl rfl ?_
    refine walk ?_
    refine s_box (cs := nv n) rfl rfl rfl ?_
    intro b
    refine walk ?_
    (refine wp_draw [6] (.look 0 (.look 1 (.look 2 (.look 3 (.look 4 (.look 5 (.act 6 .nil .stop))))))) (by kernel_rfl) ?_; (apply dw_pure; (· exact rfl); (· exact rfl); (· (intro G; exact looked))); (apply dw_pure; (· exact rfl); (· exact rfl); (· (intro G; exact looked))); (apply dw_pure; (· exact rfl); (· exact rfl); (· (intro G; exact looked))); (apply dw_look; (· exact rfl); (· exact rfl); (· (exact looked))); (apply dw_pure; (· exact rfl); (· exact rfl); (· (intro G; exact looked))); (apply dw_look; (· exact rfl); (· exact rfl); (· (exact looked))); skip)
    refine dw_do rfl rfl ?_ dw_stop
    refine s_call rfl (iTset (x := x) (L := L) (g := n.g) (st := 2) ok hK) rfl ?_
    rintro _ _ ⟨rfl, rfl⟩
    refine wpl_nil (qone ⟨(by refine st_past (by kernel_rfl) ?_; refine st_past (by kernel_rfl) ?_; exact st_nil), ?_⟩)
    (refine dw_nil ?_; skip)
    refine walk ?_
    refine s_call rfl (iHas (x := x) (L := L.put (L.I.tset n.g 2)) (m := n.m) (p := n.p) (a := 2) (g := n.g) hm hp) rfl ?_
    rintro _ _ ⟨rfl, rfl⟩
    refine walk ?_
    exact QRet.ent (G := IdeAt x (L.put ((Ide.tset L.I n.g 2).has n.m n.p 2 n.g)) + F) Ent.auto (ret0 (.inl rfl) rfl ⟨Ent.refl _, rfl⟩)
theorem d18 [i : HasAt IdeAt H x L F] (hm : 0 ≤ n.m ∧ n.m < L.I.ms.length) (ok : L.I.tab.ok K) (hK : K ≤ 100000) : Does Try.prog B 64 [ptr x, noteV n] H fun r H' => H' = IdeAt x (L.put ((L.I.tset n.g 1).leaves n.m)) + F ∧ r = .tuple #[] := by
  have z6 : Cell B (IdeAt x L) x 6 (ptr L.q) := ide_cell rfl
  have z7 : Cell B (IdeAt x L) x 7 (ptr L.s) := ide_cell rfl
  rw [i.eq]
  refine Does.same ?_
  refine fn_intro 15 Try.func64 rfl rfl rfl ?_
  refine walk ?_
  refine s_box (cs := nv n) rfl rfl rfl ?_
  intro b
  refine walk ?_
  (refine wp_draw [6] (.look 0 (.look 1 (.look 2 (.look 3 (.look 4 (.look 5 (.act 6 .nil .stop))))))) (by kernel_rfl) ?_; (apply dw_pure; (· exact rfl); (· exact rfl); (· (intro G; exact looked))); (apply dw_pure; (· exact rfl); (· exact rfl); (· (intro G; exact looked))); (apply dw_pure; (· exact rfl); (· exact rfl); (· (intro G; exact looked))); (apply dw_look; (· exact rfl); (· exact rfl); (· (exact looked))); (apply dw_pure; (· exact rfl); (· exact rfl); (· (intro G; exact looked))); (apply dw_look; (· exact rfl); (· exact rfl); (· (exact looked))); skip)
  refine dw_do rfl rfl ?_ dw_stop
  refine s_call rfl (iTset (x := x) (L := L) (g := n.g) (st := 1) ok hK) rfl ?_
  rintro _ _ ⟨rfl, rfl⟩
  refine wpl_nil (qone ⟨(by refine st_past (by kernel_rfl) ?_; refine st_past (by kernel_rfl) ?_; exact st_nil), ?_⟩)
  (refine dw_nil ?_; skip)
  refine walk ?_
  refine s_call rfl (iLeaves (x := x) (L := L.put (L.I.tset n.g 1)) (m := n.m) hm) rfl ?_
  rintro _ _ ⟨rfl, rfl⟩
  refine walk ?_
  exact QRet.ent (G := IdeAt x (L.put ((L.I.tset n.g 1).leaves n.m)) + F) Ent.auto (ret0 (.inl rfl) rfl ⟨Ent.refl _, rfl⟩)
theorem d20 [i : HasAt IdeAt H x L F] (hm : 0 ≤ n.m ∧ n.m < L.I.ms.length) (hp : 0 ≤ n.p ∧ n.p < L.I.ps.length) : Does Try.prog B 67 [ptr x, noteV n] H fun r H' => H' = IdeAt x (L.put (L.I.has n.m n.p 1 (-1))) + F ∧ r = .tuple #[] := by
  have z6 : Cell B (IdeAt x L) x 6 (ptr L.q) := ide_cell rfl
  have z7 : Cell B (IdeAt x L) x 7 (ptr L.s) := ide_cell rfl
  rw [i.eq]
  refine Does.same ?_
  refine fn_intro 10 Try.func67 rfl rfl rfl ?_
  refine walk ?_
  refine s_box (cs := nv n) rfl rfl rfl ?_
  intro b
  refine walk ?_
  refine s_call rfl (iHas (x := x) (L := L) (m := n.m) (p := n.p) (a := 1) (g := -1) hm hp) rfl ?_
  rintro _ _ ⟨rfl, rfl⟩
  refine walk ?_
  exact QRet.ent (G := IdeAt x (L.put (L.I.has n.m n.p 1 (-1))) + F) Ent.auto (ret0 (.inl rfl) rfl ⟨Ent.refl _, rfl⟩)
theorem d21 [i : HasAt IdeAt H x L F] (hm : 0 ≤ n.m ∧ n.m < L.I.ms.length) (hp : 0 ≤ n.p ∧ n.p < L.I.ps.length) : Does Try.prog B 68 [ptr x, noteV n] H fun r H' => H' = IdeAt x (L.put ((L.I.leaves n.m).pset n.p (-1))) + F ∧ r = .tuple #[] := by
  have z6 : Cell B (IdeAt x L) x 6 (ptr L.q) := ide_cell rfl
  have z7 : Cell B (IdeAt x L) x 7 (ptr L.s) := ide_cell rfl
  rw [i.eq]
  refine Does.same ?_
  obtain ⟨kp, hkp, hpk, _⟩ := pAt_of hp
  have hpt : n.p.toNat = kp := by omega
  have hpl : (zs L.I.ps).length = L.I.ps.length := zs_length _
  have y9 : Cell B (IdeAt x (L.put (L.I.leaves n.m))) x 9 (.slice (some ⟨L.bp, 0, none⟩) L.I.ps.length L.cp) := ide_cell rfl
  refine fn_intro 15 Try.func68 rfl rfl rfl ?_
  refine walk ?_
  refine s_box (cs := nv n) rfl rfl rfl ?_
  intro b
  refine walk ?_
  refine s_call rfl (iLeaves (x := x) (L := L) (m := n.m) hm) rfl ?_
  rintro _ _ ⟨rfl, rfl⟩
  refine walk ?_
  (refine wp_draw [7] (.look 0 (.look 1 (.look 2 (.look 3 (.look 4 (.look 5 (.look 6 (.act 7 .nil .stop)))))))) (by kernel_rfl) ?_; (apply dw_pure; (· exact rfl); (· exact rfl); (· (intro G; exact looked))); (apply dw_pure; (· exact rfl); (· exact rfl); (· (intro G; exact looked))); (apply dw_pure; (· exact rfl); (· exact rfl); (· (intro G; exact looked))); (apply dw_look; (· exact rfl); (· exact rfl); (· (exact looked))); (apply dw_pure; (· exact rfl); (· exact rfl); (· (intro G; exact looked))); (apply dw_look; (· exact rfl); (· exact rfl); (· (exact looked))); (apply dw_pure; (· exact rfl); (· exact rfl); (· (intro G; (apply s_indexAddr (j := kp) (o' := kp); (· exact rfl); (· exact rfl); (· omega); (· omega); (· omega); (· exact rfl)); exact looked))); skip)
  refine dw_do0 rfl rfl ?_ dw_stop
  rw [ide_openP]
  refine s_store (v := .int .i64 (-1)) (cs' := zs (L.I.ps.set kp (-1)) ++ L.sp) rfl rfl rfl ?_ ?_ ?_
  · show kp < (zs L.I.ps ++ L.sp).length; simp only [List.length_append]; omega
  · show (zs L.I.ps ++ L.sp).set kp _ = _; rw [List.set_append_left _ _ (by omega)]; simp [zs, List.map_set]
  refine wpl_nil (qone0 ⟨(by refine st_past (by kernel_rfl) ?_; refine st_past (by kernel_rfl) ?_; exact st_nil), ?_⟩)
  (refine dw_nil ?_; skip)
  refine walk ?_
  refine ret0 (.inl rfl) rfl ⟨?_, rfl⟩
  rw [ide_openP]
  simp only [ideJ, Ide.pset, Ide.leaves, Ide.drops, List.length_set, hpt]
  exact Ent.auto
theorem d23 [i : HasAt IdeAt H x L F] (hp : 0 ≤ n.p ∧ n.p < L.I.ps.length) (hv : 0 ≤ L.I.pAt n.p ∧ L.I.pAt n.p < L.I.ms.length) : Does Try.prog B 71 [ptr x, noteV n] H fun r H' => H' = IdeAt x (L.put ((L.I.drops n.p).pset n.p (-2))) + F ∧ r = .tuple #[] := by
  have z6 : Cell B (IdeAt x L) x 6 (ptr L.q) := ide_cell rfl
  have z7 : Cell B (IdeAt x L) x 7 (ptr L.s) := ide_cell rfl
  rw [i.eq]
  refine Does.same ?_
  obtain ⟨kp, hkp, hpk, _⟩ := pAt_of hp
  have hpt : n.p.toNat = kp := by omega
  have hpl : (zs L.I.ps).length = L.I.ps.length := zs_length _
  have y9 : Cell B (IdeAt x (L.put (L.I.drops n.p))) x 9 (.slice (some ⟨L.bp, 0, none⟩) L.I.ps.length L.cp) := ide_cell rfl
  refine fn_intro 15 Try.func71 rfl rfl rfl ?_
  refine walk ?_
  refine s_box (cs := nv n) rfl rfl rfl ?_
  intro b
  refine walk ?_
  refine s_call rfl (iDrops (x := x) (L := L) (p := n.p) hp hv) rfl ?_
  rintro _ _ ⟨rfl, rfl⟩
  refine walk ?_
  (refine wp_draw [7] (.look 0 (.look 1 (.look 2 (.look 3 (.look 4 (.look 5 (.look 6 (.act 7 .nil .stop)))))))) (by kernel_rfl) ?_; (apply dw_pure; (· exact rfl); (· exact rfl); (· (intro G; exact looked))); (apply dw_pure; (· exact rfl); (· exact rfl); (· (intro G; exact looked))); (apply dw_pure; (· exact rfl); (· exact rfl); (· (intro G; exact looked))); (apply dw_look; (· exact rfl); (· exact rfl); (· (exact looked))); (apply dw_pure; (· exact rfl); (· exact rfl); (· (intro G; exact looked))); (apply dw_look; (· exact rfl); (· exact rfl); (· (exact looked))); (apply dw_pure; (· exact rfl); (· exact rfl); (· (intro G; (apply s_indexAddr (j := kp) (o' := kp); (· exact rfl); (· exact rfl); (· omega); (· omega); (· omega); (· exact rfl)); exact looked))); skip)
  refine dw_do0 rfl rfl ?_ dw_stop
  rw [ide_openP]
  refine s_store (v := .int .i64 (-2)) (cs' := zs (L.I.ps.set kp (-2)) ++ L.sp) rfl rfl rfl ?_ ?_ ?_
  · show kp < (zs L.I.ps ++ L.sp).length; simp only [List.length_append]; omega
  · show (zs L.I.ps ++ L.sp).set kp _ = _; rw [List.set_append_left _ _ (by omega)]; simp [zs, List.map_set]
  refine wpl_nil (qone0 ⟨(by refine st_past (by kernel_rfl) ?_; refine st_past (by kernel_rfl) ?_; exact st_nil), ?_⟩)
  (refine dw_nil ?_; skip)
  refine walk ?_
  refine ret0 (.inl rfl) rfl ⟨?_, rfl⟩
  rw [ide_openP]
  simp only [ideJ, Ide.pset, Ide.leaves, Ide.drops, List.length_set, hpt]
  exact Ent.auto
theorem d25 [i : HasAt IdeAt H x L F]  : Does Try.prog B 74 [ptr x, noteV n] H fun r H' => H' = IdeAt x (L.put (L.I)) + F ∧ r = .tuple #[] := by
  have z6 : Cell B (IdeAt x L) x 6 (ptr L.q) := ide_cell rfl
  have z7 : Cell B (IdeAt x L) x 7 (ptr L.s) := ide_cell rfl
  rw [i.eq]
  refine Does.same ?_
  refine fn_intro 4 Try.func74 rfl rfl rfl ?_
  refine walk ?_
  refine s_box (cs := nv n) rfl rfl rfl ?_
  intro b
  refine walk ?_
  refine walk ?_
  exact QRet.ent (G := IdeAt x (L.put (L.I)) + F) Ent.auto (ret0 (.inl rfl) rfl ⟨Ent.refl _, rfl⟩)
end
end Go.Proofs.Ytlhnmbajbhaaoaa
