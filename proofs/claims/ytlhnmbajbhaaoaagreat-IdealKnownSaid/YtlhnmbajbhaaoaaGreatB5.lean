/- What notes do: each kind, by its function. The kinds; a note's fields. The system stays within its bounds. Any note: whether it may be, and what it does. Notes are taken. A system at first. No condition. -/
import Derived.Test.YtlhnmbajbhaaoaaGreatSL2
import Derived.Test.YtlhnmbajbhaaoaaGreatB3
import Derived.Test.YtlhnmbajbhaaoaaGreatB4
import Derived.Test.YtlhnmbajbhaaoaaGreatSL3
namespace Go.Proofs.YtlhnmbajbhaaoaaGreat
open Go Go.SL
set_option linter.unusedSimpArgs false
set_option linter.unusedVariables false
set_option maxRecDepth 10000
set_option maxHeartbeats 2000000
attribute [local irreducible] WP WPL QSeq QBlk QRet Does Cell Cells Rd Mine Ent Aside RV Yield TabAt SemAt
section
variable {B : World} {H F G : HProp} {x : Nat} {L : IdL} {n : Nt} {m p a g s st : Int} {k j : Nat} {K : Int}
theorem iTset [i : HasAt IdeAt H x L F] (ok : L.I.tab.ok K) (hK : K ≤ 100000) : Does Tryz.prog B 71 [ptr L.q, .int .i64 g, .int .i64 st] H fun r H' => H' = IdeAt x (L.put (L.I.tset g st)) + F ∧ r = .int .i64 (L.I.tab.set g st).1 := by
  rw [i.eq]
  refine (tSet (p := L.q) (T := L.I.tab) (g := g) (x := st) ok hK).weak fun r H' ⟨e, hr⟩ => ⟨_, ?_, rfl, hr⟩
  rw [e, ide_open]
  exact Ent.ac (by simp only [IdL.put, Ide.tset]; ac_rfl)
theorem iMake [i : HasAt IdeAt H x L F] (ok : L.I.tab.ok K) (hK : K ≤ 100000) : Does Tryz.prog B 34 [ptr L.q] H fun r H' => H' = IdeAt x (L.put { L.I with tab := L.I.tab.make.2.2 }) + F ∧ r = .tuple #[.int .i64 L.I.tab.make.1, .int .i64 L.I.tab.make.2.1] := by
  rw [i.eq]
  refine (tMake (p := L.q) (T := L.I.tab) ok hK).weak fun r H' ⟨e, hr⟩ => ⟨_, ?_, rfl, hr⟩
  rw [e, ide_open]
  exact Ent.ac (by simp only [IdL.put]; ac_rfl)
theorem iAcq [i : HasAt IdeAt H x L F] : Does Tryz.prog B 74 [ptr L.s, .int .i64 s, .int .i64 g] H fun r H' => H' = IdeAt x (L.put { L.I with sem := (acqS L.I.sem s g).1 }) + F ∧ r = .tuple #[.bool (acqS L.I.sem s g).2.1, .int .i64 (acqS L.I.sem s g).2.2] := by
  rw [i.eq]
  refine (sAcquireA (p := L.s) (S := L.I.sem) (k := s) (g := g)).weak fun r H' ⟨e, hr⟩ => ⟨_, ?_, rfl, hr⟩
  rw [e, ide_open]
  exact Ent.ac (by simp only [IdL.put]; ac_rfl)
theorem iRel [i : HasAt IdeAt H x L F] : Does Tryz.prog B 80 [ptr L.s, .int .i64 s] H fun r H' => H' = IdeAt x (L.put { L.I with sem := (relS L.I.sem s).1 }) + F ∧ r = .tuple #[.int .i64 (relS L.I.sem s).2.1, .bool (relS L.I.sem s).2.2.1, .int .i64 (relS L.I.sem s).2.2.2] := by
  rw [i.eq]
  refine (sReleaseA (p := L.s) (S := L.I.sem) (k := s)).weak fun r H' ⟨e, hr⟩ => ⟨_, ?_, rfl, hr⟩
  rw [e, ide_open]
  exact Ent.ac (by simp only [IdL.put]; ac_rfl)
abbrev ideJ (L : IdL) (J : Ide) : List Value := [.int .i64 J.c.n, .int .i64 J.c.q, .int .i64 J.c.g, .int .i64 J.c.m, .int .i64 J.c.t, .int .i64 J.c.s, ptr L.q, ptr L.s,
  .slice (some ⟨L.bm, 0, none⟩) J.ms.length L.cm, .slice (some ⟨L.bp, 0, none⟩) J.ps.length L.cp, .int .i64 J.many]
theorem ide_openP {J : Ide} : IdeAt x (L.put J) + F = blk x (ideJ L J) 75 + (blk L.bm (mcs J.ms ++ L.sm) 80 + (blk L.bp (zs J.ps ++ L.sp) 3 + (TabAt L.q J.tab + (SemAt L.s J.sem + F)))) := ide_open
attribute [local irreducible] IdeAt
theorem dSearchesOn [i : HasAt IdeAt H x L F] (hm : 0 ≤ n.m ∧ n.m < L.I.ms.length) (hp : 0 ≤ n.p ∧ n.p < L.I.ps.length) (ok : L.I.tab.ok K) (hK : K ≤ 100000) : Does Tryz.prog B 64 [ptr x, noteV n, .int .i64 st] H fun r H' => H' = IdeAt x (L.put ((L.I.tset n.g st).has n.m n.p 1 (-1))) + F ∧ r = .tuple #[] := by
  have z6 : Cell B (IdeAt x L) x 6 (ptr L.q) := ide_cell rfl
  have z7 : Cell B (IdeAt x L) x 7 (ptr L.s) := ide_cell rfl
  rw [i.eq]
  refine Does.same ?_
  refine fn_intro 20 Tryz.func64 rfl rfl rfl ?_
  refine walk ?_
  refine s_box (cs := nv n) rfl rfl rfl ?_
  intro b
  refine walk ?_
  (refine wp_draw [7] (.look 0 (.look 1 (.look 2 (.look 3 (.look 4 (.look 5 (.look 6 (.act 7 .nil .stop)))))))) (by kernel_rfl) ?_; refine dwP ?_; refine dwP ?_; refine dwP ?_; refine dwL ?_; refine dwP ?_; refine dwL ?_; refine dwP ?_; skip)
  refine dw_do rfl rfl ?_ dw_stop
  refine s_call rfl (iTset (x := x) (L := L) (g := n.g) (st := st) ok hK) rfl ?_
  rintro _ _ ⟨rfl, rfl⟩
  refine wpl_nil (qone ⟨(by refine st_past (by kernel_rfl) ?_; refine st_past (by kernel_rfl) ?_; exact st_nil), ?_⟩)
  (refine dw_nil ?_; skip)
  refine walk ?_
  refine s_call rfl (iHas (x := x) (L := L.put (L.I.tset n.g st)) (m := n.m) (p := n.p) (a := 1) (g := -1) hm hp) rfl ?_
  rintro _ _ ⟨rfl, rfl⟩
  refine walk ?_
  exact QRet.ent (G := IdeAt x (L.put ((L.I.tset n.g st).has n.m n.p 1 (-1))) + F) Ent.auto (ret0 (.inl rfl) rfl ⟨Ent.refl _, rfl⟩)
theorem d1 [i : HasAt IdeAt H x L F] (hm : 0 ≤ n.m ∧ n.m < L.I.ms.length) (hp : 0 ≤ n.p ∧ n.p < L.I.ps.length) (ok : L.I.tab.ok K) (hK : K ≤ 100000) : Does Tryz.prog B 63 [ptr x, noteV n] H fun r H' => H' = IdeAt x (L.put ((L.I.tset n.g 1).has n.m n.p 1 (-1))) + F ∧ r = .tuple #[] := by
  have z6 : Cell B (IdeAt x L) x 6 (ptr L.q) := ide_cell rfl
  have z7 : Cell B (IdeAt x L) x 7 (ptr L.s) := ide_cell rfl
  rw [i.eq]
  refine Does.same ?_
  refine fn_intro 7 Tryz.func63 rfl rfl rfl ?_
  refine walk ?_
  refine s_box (cs := nv n) rfl rfl rfl ?_
  intro b
  refine walk ?_
  refine s_call rfl (dSearchesOn (x := x) (L := L) (n := n) (st := 1) hm hp ok hK) rfl ?_
  rintro _ _ ⟨rfl, rfl⟩
  refine walk ?_
  exact QRet.ent (G := IdeAt x (L.put ((L.I.tset n.g 1).has n.m n.p 1 (-1))) + F) Ent.auto (ret0 (.inl rfl) rfl ⟨Ent.refl _, rfl⟩)
theorem d14 [i : HasAt IdeAt H x L F] (hm : 0 ≤ n.m ∧ n.m < L.I.ms.length) (hp : 0 ≤ n.p ∧ n.p < L.I.ps.length) (ok : L.I.tab.ok K) (hK : K ≤ 100000) : Does Tryz.prog B 83 [ptr x, noteV n] H fun r H' => H' = IdeAt x (L.put ((L.I.tset n.g 0).has n.m n.p 1 (-1))) + F ∧ r = .tuple #[] := by
  have z6 : Cell B (IdeAt x L) x 6 (ptr L.q) := ide_cell rfl
  have z7 : Cell B (IdeAt x L) x 7 (ptr L.s) := ide_cell rfl
  rw [i.eq]
  refine Does.same ?_
  refine fn_intro 7 Tryz.func83 rfl rfl rfl ?_
  refine walk ?_
  refine s_box (cs := nv n) rfl rfl rfl ?_
  intro b
  refine walk ?_
  refine s_call rfl (dSearchesOn (x := x) (L := L) (n := n) (st := 0) hm hp ok hK) rfl ?_
  rintro _ _ ⟨rfl, rfl⟩
  refine walk ?_
  exact QRet.ent (G := IdeAt x (L.put ((L.I.tset n.g 0).has n.m n.p 1 (-1))) + F) Ent.auto (ret0 (.inl rfl) rfl ⟨Ent.refl _, rfl⟩)
theorem d3 [i : HasAt IdeAt H x L F] (ok : L.I.tab.ok K) (hK : K ≤ 100000) : Does Tryz.prog B 67 [ptr x, noteV n] H fun r H' => H' = IdeAt x (L.put ({ L.I with tab := L.I.tab.make.2.2 })) + F ∧ r = .tuple #[] := by
  have z6 : Cell B (IdeAt x L) x 6 (ptr L.q) := ide_cell rfl
  have z7 : Cell B (IdeAt x L) x 7 (ptr L.s) := ide_cell rfl
  rw [i.eq]
  refine Does.same ?_
  refine fn_intro 9 Tryz.func67 rfl rfl rfl ?_
  refine walk ?_
  refine s_box (cs := nv n) rfl rfl rfl ?_
  intro b
  refine walk ?_
  refine s_call rfl (iMake (x := x) (L := L) ok hK) rfl ?_
  rintro _ _ ⟨rfl, rfl⟩
  refine walk ?_
  exact QRet.ent (G := IdeAt x (L.put ({ L.I with tab := L.I.tab.make.2.2 })) + F) Ent.auto (ret0 (.inl rfl) rfl ⟨Ent.refl _, rfl⟩)
theorem d5 [i : HasAt IdeAt H x L F] (hm : 0 ≤ n.m ∧ n.m < L.I.ms.length) (hp : 0 ≤ n.p ∧ n.p < L.I.ps.length) (ok : L.I.tab.ok K) (hK : K ≤ 100000) : Does Tryz.prog B 70 [ptr x, noteV n] H fun r H' => H' = IdeAt x (L.put ((L.I.tset n.g 2).has n.m n.p 2 n.g)) + F ∧ r = .tuple #[] := by
  have z6 : Cell B (IdeAt x L) x 6 (ptr L.q) := ide_cell rfl
  have z7 : Cell B (IdeAt x L) x 7 (ptr L.s) := ide_cell rfl
  rw [i.eq]
  refine Does.same ?_
  refine fn_intro 19 Tryz.func70 rfl rfl rfl ?_
  refine walk ?_
  refine s_box (cs := nv n) rfl rfl rfl ?_
  intro b
  refine walk ?_
  (refine wp_draw [6] (.look 0 (.look 1 (.look 2 (.look 3 (.look 4 (.look 5 (.act 6 .nil .stop))))))) (by kernel_rfl) ?_; refine dwP ?_; refine dwP ?_; refine dwP ?_; refine dwL ?_; refine dwP ?_; refine dwL ?_; skip)
  refine dw_do rfl rfl ?_ dw_stop
  refine s_call rfl (iTset (x := x) (L := L) (g := n.g) (st := 2) ok hK) rfl ?_
  rintro _ _ ⟨rfl, rfl⟩
  refine wpl_nil (qone ⟨(by refine st_past (by kernel_rfl) ?_; refine st_past (by kernel_rfl) ?_; exact st_nil), ?_⟩)
  (refine dw_nil ?_; skip)
  refine walk ?_
  refine s_call rfl (iHas (x := x) (L := L.put (L.I.tset n.g 2)) (m := n.m) (p := n.p) (a := 2) (g := n.g) hm hp) rfl ?_
  rintro _ _ ⟨rfl, rfl⟩
  refine walk ?_
  exact QRet.ent (G := IdeAt x (L.put ((L.I.tset n.g 2).has n.m n.p 2 n.g)) + F) Ent.auto (ret0 (.inl rfl) rfl ⟨Ent.refl _, rfl⟩)
theorem d7 [i : HasAt IdeAt H x L F]  : Does Tryz.prog B 73 [ptr x, noteV n] H fun r H' => H' = IdeAt x (L.put ({ L.I with sem := (acqS L.I.sem n.x n.g).1 })) + F ∧ r = .tuple #[] := by
  have z6 : Cell B (IdeAt x L) x 6 (ptr L.q) := ide_cell rfl
  have z7 : Cell B (IdeAt x L) x 7 (ptr L.s) := ide_cell rfl
  rw [i.eq]
  refine Does.same ?_
  refine fn_intro 13 Tryz.func73 rfl rfl rfl ?_
  refine walk ?_
  refine s_box (cs := nv n) rfl rfl rfl ?_
  intro b
  refine walk ?_
  (refine wp_draw [8] (.look 0 (.look 1 (.look 2 (.look 3 (.look 4 (.look 5 (.look 6 (.look 7 (.act 8 .nil .stop))))))))) (by kernel_rfl) ?_; refine dwP ?_; refine dwP ?_; refine dwP ?_; refine dwL ?_; refine dwP ?_; refine dwL ?_; refine dwP ?_; refine dwL ?_; skip)
  refine dw_do rfl rfl ?_ dw_stop
  refine s_call rfl (iAcq (x := x) (L := L) (s := n.x) (g := n.g)) rfl ?_
  rintro _ _ ⟨rfl, rfl⟩
  refine wpl_nil (qone ⟨(by refine st_past (by kernel_rfl) ?_; refine st_past (by kernel_rfl) ?_; refine st_past (by kernel_rfl) ?_; exact st_nil), ?_⟩)
  (refine dw_nil ?_; skip)
  refine walk ?_
  exact QRet.ent (G := IdeAt x (L.put ({ L.I with sem := (acqS L.I.sem n.x n.g).1 })) + F) Ent.auto (ret0 (.inl rfl) rfl ⟨Ent.refl _, rfl⟩)
theorem d9 [i : HasAt IdeAt H x L F] (hm : 0 ≤ n.m ∧ n.m < L.I.ms.length) (hp : 0 ≤ n.p ∧ n.p < L.I.ps.length) (ok : L.I.tab.ok K) (hK : K ≤ 100000) : Does Tryz.prog B 76 [ptr x, noteV n] H fun r H' => H' = IdeAt x (L.put ((Ide.tset { L.I with sem := (acqS L.I.sem n.x n.g).1 } n.g 3).has n.m n.p 1 (-1))) + F ∧ r = .tuple #[] := by
  have z6 : Cell B (IdeAt x L) x 6 (ptr L.q) := ide_cell rfl
  have z7 : Cell B (IdeAt x L) x 7 (ptr L.s) := ide_cell rfl
  rw [i.eq]
  refine Does.same ?_
  refine fn_intro 16 Tryz.func76 rfl rfl rfl ?_
  refine walk ?_
  refine s_box (cs := nv n) rfl rfl rfl ?_
  intro b
  refine walk ?_
  (refine wp_draw [8] (.look 0 (.look 1 (.look 2 (.look 3 (.look 4 (.look 5 (.look 6 (.look 7 (.act 8 .nil .stop))))))))) (by kernel_rfl) ?_; refine dwP ?_; refine dwP ?_; refine dwP ?_; refine dwL ?_; refine dwP ?_; refine dwL ?_; refine dwP ?_; refine dwL ?_; skip)
  refine dw_do rfl rfl ?_ dw_stop
  refine s_call rfl (iAcq (x := x) (L := L) (s := n.x) (g := n.g)) rfl ?_
  rintro _ _ ⟨rfl, rfl⟩
  refine wpl_nil (qone ⟨(by refine st_past (by kernel_rfl) ?_; refine st_past (by kernel_rfl) ?_; refine st_past (by kernel_rfl) ?_; exact st_nil), ?_⟩)
  (refine dw_nil ?_; skip)
  refine walk ?_
  refine s_call rfl (dSearchesOn (x := x) (L := L.put { L.I with sem := (acqS L.I.sem n.x n.g).1 }) (n := n) (st := 3) hm hp ok hK) rfl ?_
  rintro _ _ ⟨rfl, rfl⟩
  refine walk ?_
  exact QRet.ent (G := IdeAt x (L.put ((Ide.tset { L.I with sem := (acqS L.I.sem n.x n.g).1 } n.g 3).has n.m n.p 1 (-1))) + F) Ent.auto (ret0 (.inl rfl) rfl ⟨Ent.refl _, rfl⟩)
theorem d11 [i : HasAt IdeAt H x L F]  : Does Tryz.prog B 79 [ptr x, noteV n] H fun r H' => H' = IdeAt x (L.put ({ L.I with sem := (relS L.I.sem n.x).1 })) + F ∧ r = .tuple #[] := by
  have z6 : Cell B (IdeAt x L) x 6 (ptr L.q) := ide_cell rfl
  have z7 : Cell B (IdeAt x L) x 7 (ptr L.s) := ide_cell rfl
  rw [i.eq]
  refine Does.same ?_
  refine fn_intro 11 Tryz.func79 rfl rfl rfl ?_
  refine walk ?_
  refine s_box (cs := nv n) rfl rfl rfl ?_
  intro b
  refine walk ?_
  (refine wp_draw [6] (.look 0 (.look 1 (.look 2 (.look 3 (.look 4 (.look 5 (.act 6 .nil .stop))))))) (by kernel_rfl) ?_; refine dwP ?_; refine dwP ?_; refine dwP ?_; refine dwL ?_; refine dwP ?_; refine dwL ?_; skip)
  refine dw_do rfl rfl ?_ dw_stop
  refine s_call rfl (iRel (x := x) (L := L) (s := n.x)) rfl ?_
  rintro _ _ ⟨rfl, rfl⟩
  refine wpl_nil (qone ⟨(by refine st_past (by kernel_rfl) ?_; refine st_past (by kernel_rfl) ?_; exact st_nil), ?_⟩)
  (refine dw_nil ?_; skip)
  refine walk ?_
  exact QRet.ent (G := IdeAt x (L.put ({ L.I with sem := (relS L.I.sem n.x).1 })) + F) Ent.auto (ret0 (.inl rfl) rfl ⟨Ent.refl _, rfl⟩)
theorem d13 [i : HasAt IdeAt H x L F] (ok : L.I.tab.ok K) (hK : K ≤ 100000) : Does Tryz.prog B 82 [ptr x, noteV n] H fun r H' => H' = IdeAt x (L.put (Ide.tset { L.I with sem := (relS L.I.sem n.x).1 } n.g 1)) + F ∧ r = .tuple #[] := by
  have z6 : Cell B (IdeAt x L) x 6 (ptr L.q) := ide_cell rfl
  have z7 : Cell B (IdeAt x L) x 7 (ptr L.s) := ide_cell rfl
  rw [i.eq]
  refine Does.same ?_
  refine fn_intro 18 Tryz.func82 rfl rfl rfl ?_
  refine walk ?_
  refine s_box (cs := nv n) rfl rfl rfl ?_
  intro b
  refine walk ?_
  (refine wp_draw [6] (.look 0 (.look 1 (.look 2 (.look 3 (.look 4 (.look 5 (.act 6 .nil .stop))))))) (by kernel_rfl) ?_; refine dwP ?_; refine dwP ?_; refine dwP ?_; refine dwL ?_; refine dwP ?_; refine dwL ?_; skip)
  refine dw_do rfl rfl ?_ dw_stop
  refine s_call rfl (iRel (x := x) (L := L) (s := n.x)) rfl ?_
  rintro _ _ ⟨rfl, rfl⟩
  refine wpl_nil (qone ⟨(by refine st_past (by kernel_rfl) ?_; refine st_past (by kernel_rfl) ?_; exact st_nil), ?_⟩)
  (refine dw_nil ?_; skip)
  have y6 : Cell B (IdeAt x (L.put { L.I with sem := (relS L.I.sem n.x).1 })) x 6 (ptr L.q) := ide_cell rfl
  refine walk ?_
  (refine wp_draw [6] (.look 0 (.look 1 (.look 2 (.look 3 (.look 4 (.look 5 (.act 6 .nil .stop))))))) (by kernel_rfl) ?_; refine dwP ?_; refine dwP ?_; refine dwP ?_; refine dwL ?_; refine dwP ?_; refine dwL ?_; skip)
  refine dw_do rfl rfl ?_ dw_stop
  refine s_call rfl (iTset (x := x) (L := L.put { L.I with sem := (relS L.I.sem n.x).1 }) (g := n.g) (st := 1) ok hK) rfl ?_
  rintro _ _ ⟨rfl, rfl⟩
  refine wpl_nil (qone ⟨(by refine st_past (by kernel_rfl) ?_; refine st_past (by kernel_rfl) ?_; exact st_nil), ?_⟩)
  (refine dw_nil ?_; skip)
  refine walk ?_
  exact QRet.ent (G := IdeAt x (L.put (Ide.tset { L.I with sem := (relS L.I.sem n.x).1 } n.g 1)) + F) Ent.auto (ret0 (.inl rfl) rfl ⟨Ent.refl _, rfl⟩)
theorem d16 [i : HasAt IdeAt H x L F] (hm : 0 ≤ n.m ∧ n.m < L.I.ms.length) (hp : 0 ≤ n.p ∧ n.p < L.I.ps.length) (ok : L.I.tab.ok K) (hK : K ≤ 100000) : Does Tryz.prog B 85 [ptr x, noteV n] H fun r H' => H' = IdeAt x (L.put (let J := (L.I.tset n.g 4).has n.m n.p 3 n.g; { J with ms := J.ms.modify n.m.toNat fun x => { x with b := n.p } })) + F ∧ r = .tuple #[] := by
  have z6 : Cell B (IdeAt x L) x 6 (ptr L.q) := ide_cell rfl
  have z7 : Cell B (IdeAt x L) x 7 (ptr L.s) := ide_cell rfl
  rw [i.eq]
  refine Does.same ?_
  obtain ⟨k, hk, hmk, _⟩ := mAt_of hm
  have hmt : n.m.toNat = k := by omega
  obtain ⟨J1, hJ1⟩ : ∃ J1, (L.I.tset n.g 4).has n.m n.p 3 n.g = J1 := ⟨_, rfl⟩
  have hl : J1.ms.length = L.I.ms.length := by rw [← hJ1]; simp only [Ide.has, Ide.tset, List.length_modify]
  have hk1 : k < J1.ms.length := by omega
  have hml : (mcs J1.ms).length = J1.ms.length * 4 := mcs_len _
  have y8 : Cell B (IdeAt x (L.put J1)) x 8 (.slice (some ⟨L.bm, 0, none⟩) J1.ms.length L.cm) := ide_cell rfl
  rw [hJ1, hmt]
  refine fn_intro 29 Tryz.func85 rfl rfl rfl ?_
  refine walk ?_
  refine s_box (cs := nv n) rfl rfl rfl ?_
  intro b
  refine walk ?_
  (refine wp_draw [6] (.look 0 (.look 1 (.look 2 (.look 3 (.look 4 (.look 5 (.act 6 .nil .stop))))))) (by kernel_rfl) ?_; refine dwP ?_; refine dwP ?_; refine dwP ?_; refine dwL ?_; refine dwP ?_; refine dwL ?_; skip)
  refine dw_do rfl rfl ?_ dw_stop
  refine s_call rfl (iTset (x := x) (L := L) (g := n.g) (st := 4) ok hK) rfl ?_
  rintro _ _ ⟨rfl, rfl⟩
  refine wpl_nil (qone ⟨(by refine st_past (by kernel_rfl) ?_; refine st_past (by kernel_rfl) ?_; exact st_nil), ?_⟩)
  (refine dw_nil ?_; skip)
  refine walk ?_
  refine s_call rfl (iHas (x := x) (L := L.put (L.I.tset n.g 4)) (m := n.m) (p := n.p) (a := 3) (g := n.g) hm hp) rfl ?_
  rintro _ _ ⟨rfl, rfl⟩
  rw [show IdeAt x ((L.put (L.I.tset n.g 4)).put ((L.put (L.I.tset n.g 4)).I.has n.m n.p 3 n.g)) = IdeAt x (L.put J1) by rw [← hJ1]]
  refine walk ?_
  (refine wp_draw [10] (.look 0 (.look 1 (.look 2 (.look 3 (.look 4 (.look 5 (.look 6 (.look 7 (.look 8 (.look 9 (.act 10 .nil .stop))))))))))) (by kernel_rfl) ?_; refine dwP ?_; refine dwP ?_; refine dwP ?_; refine dwL ?_; refine dwP ?_; refine dwL ?_; refine dwP ?_; refine dwL ?_; (apply dw_pure; (· exact rfl); (· exact rfl); (· (intro G; (apply s_indexAddr (j := k) (o' := k * 4); (· exact rfl); (· exact rfl); (· omega); (· omega); (· omega); (· exact rfl)); exact looked))); refine dwP ?_; skip)
  refine dw_do0 rfl rfl ?_ dw_stop
  rw [ide_openP]
  refine s_store (v := .int .i64 n.p) (cs' := mcs (J1.ms.modify k fun x => { x with b := n.p }) ++ L.sm) rfl rfl rfl ?_ (mcs_setB hk1 _ _) ?_
  · simp only [List.length_append]; omega
  refine wpl_nil (qone0 ⟨(by refine st_past (by kernel_rfl) ?_; refine st_past (by kernel_rfl) ?_; refine st_past (by kernel_rfl) ?_; exact st_nil), ?_⟩)
  (refine dw_nil ?_; skip)
  refine walk ?_
  refine ret0 (.inl rfl) rfl ⟨?_, rfl⟩
  rw [ide_openP]
  simp only [ideJ, List.length_modify]
  exact Ent.auto
theorem dComes [i : HasAt IdeAt H x L F] (hm : 0 ≤ n.m ∧ n.m < L.I.ms.length) (hp : 0 ≤ n.p ∧ n.p < L.I.ps.length) (ok : L.I.tab.ok K) (hK : K ≤ 100000) (hv : n.x = 1 → 0 ≤ L.I.pAt n.p ∧ L.I.pAt n.p < L.I.ms.length) : Does Tryz.prog B 87 [ptr x, noteV n] H fun r H' => H' = IdeAt x (L.put ((Ide.tset (if n.x = 1 then L.I.drops n.p else L.I) n.g 2).has n.m n.p 2 n.g)) + F ∧ r = .tuple #[] := by
  have z6 : Cell B (IdeAt x L) x 6 (ptr L.q) := ide_cell rfl
  have z7 : Cell B (IdeAt x L) x 7 (ptr L.s) := ide_cell rfl
  rw [i.eq]
  refine Does.same ?_
  by_cases hx : n.x = 1
  · rw [if_pos hx]
    have hm2 : 0 ≤ n.m ∧ n.m < (L.put (L.I.drops n.p)).I.ms.length := by simp only [IdL.put, Ide.drops, List.length_modify]; exact hm
    have y6 : Cell B (IdeAt x (L.put (L.I.drops n.p))) x 6 (ptr L.q) := ide_cell rfl
    refine fn_intro 26 Tryz.func87 rfl rfl rfl ?_
    refine walk ?_
    refine s_box (cs := nv n) rfl rfl rfl ?_
    intro b
    refine walk ?_
    refine s_call rfl (iDrops (x := x) (L := L) (p := n.p) hp (hv hx)) rfl ?_
    rintro _ _ ⟨rfl, rfl⟩
    refine walk ?_
    (refine wp_draw [6] (.look 0 (.look 1 (.look 2 (.look 3 (.look 4 (.look 5 (.act 6 .nil .stop))))))) (by kernel_rfl) ?_; refine dwP ?_; refine dwP ?_; refine dwP ?_; refine dwL ?_; refine dwP ?_; refine dwL ?_; skip)
    refine dw_do rfl rfl ?_ dw_stop
    refine s_call rfl (iTset (x := x) (L := L.put (L.I.drops n.p)) (g := n.g) (st := 2) ok hK) rfl ?_
    rintro _ _ ⟨rfl, rfl⟩
    refine wpl_nil (qone ⟨(by refine st_past (by kernel_rfl) ?_; refine st_past (by kernel_rfl) ?_; exact st_nil), ?_⟩)
    (refine dw_nil ?_; skip)
    refine walk ?_
    refine s_call rfl (iHas (x := x) (L := L.put (Ide.tset (L.I.drops n.p) n.g 2)) (m := n.m) (p := n.p) (a := 2) (g := n.g) hm2 hp) rfl ?_
    rintro _ _ ⟨rfl, rfl⟩
    refine walk ?_
    exact QRet.ent (G := IdeAt x (L.put ((Ide.tset (L.I.drops n.p) n.g 2).has n.m n.p 2 n.g)) + F) Ent.auto (ret0 (.inl rfl) rfl ⟨Ent.refl _, rfl⟩)
  · rw [if_neg hx]
    refine fn_intro 26 Tryz.func87 rfl rfl rfl ?_
    refine walk ?_
    refine s_box (cs := nv n) rfl rfl rfl ?_
    intro b
    refine walk ?_
    (refine wp_draw [6] (.look 0 (.look 1 (.look 2 (.look 3 (.look 4 (.look 5 (.act 6 .nil .stop))))))) (by kernel_rfl) ?_; refine dwP ?_; refine dwP ?_; refine dwP ?_; refine dwL ?_; refine dwP ?_; refine dwL ?_; skip)
    refine dw_do rfl rfl ?_ dw_stop
    refine s_call rfl (iTset (x := x) (L := L) (g := n.g) (st := 2) ok hK) rfl ?_
    rintro _ _ ⟨rfl, rfl⟩
    refine wpl_nil (qone ⟨(by refine st_past (by kernel_rfl) ?_; refine st_past (by kernel_rfl) ?_; exact st_nil), ?_⟩)
    (refine dw_nil ?_; skip)
    refine walk ?_
    refine s_call rfl (iHas (x := x) (L := L.put (L.I.tset n.g 2)) (m := n.m) (p := n.p) (a := 2) (g := n.g) hm hp) rfl ?_
    rintro _ _ ⟨rfl, rfl⟩
    refine walk ?_
    exact QRet.ent (G := IdeAt x (L.put ((Ide.tset L.I n.g 2).has n.m n.p 2 n.g)) + F) Ent.auto (ret0 (.inl rfl) rfl ⟨Ent.refl _, rfl⟩)
theorem d18 [i : HasAt IdeAt H x L F] (hm : 0 ≤ n.m ∧ n.m < L.I.ms.length) (ok : L.I.tab.ok K) (hK : K ≤ 100000) : Does Tryz.prog B 90 [ptr x, noteV n] H fun r H' => H' = IdeAt x (L.put ((L.I.tset n.g 1).leaves n.m)) + F ∧ r = .tuple #[] := by
  have z6 : Cell B (IdeAt x L) x 6 (ptr L.q) := ide_cell rfl
  have z7 : Cell B (IdeAt x L) x 7 (ptr L.s) := ide_cell rfl
  rw [i.eq]
  refine Does.same ?_
  refine fn_intro 15 Tryz.func90 rfl rfl rfl ?_
  refine walk ?_
  refine s_box (cs := nv n) rfl rfl rfl ?_
  intro b
  refine walk ?_
  (refine wp_draw [6] (.look 0 (.look 1 (.look 2 (.look 3 (.look 4 (.look 5 (.act 6 .nil .stop))))))) (by kernel_rfl) ?_; refine dwP ?_; refine dwP ?_; refine dwP ?_; refine dwL ?_; refine dwP ?_; refine dwL ?_; skip)
  refine dw_do rfl rfl ?_ dw_stop
  refine s_call rfl (iTset (x := x) (L := L) (g := n.g) (st := 1) ok hK) rfl ?_
  rintro _ _ ⟨rfl, rfl⟩
  refine wpl_nil (qone ⟨(by refine st_past (by kernel_rfl) ?_; refine st_past (by kernel_rfl) ?_; exact st_nil), ?_⟩)
  (refine dw_nil ?_; skip)
  refine walk ?_
  refine s_call rfl (iLeaves (x := x) (L := L.put (L.I.tset n.g 1)) (m := n.m) hm) rfl ?_
  rintro _ _ ⟨rfl, rfl⟩
  refine walk ?_
  exact QRet.ent (G := IdeAt x (L.put ((L.I.tset n.g 1).leaves n.m)) + F) Ent.auto (ret0 (.inl rfl) rfl ⟨Ent.refl _, rfl⟩)
theorem d20 [i : HasAt IdeAt H x L F] (hm : 0 ≤ n.m ∧ n.m < L.I.ms.length) (hp : 0 ≤ n.p ∧ n.p < L.I.ps.length) : Does Tryz.prog B 93 [ptr x, noteV n] H fun r H' => H' = IdeAt x (L.put (L.I.has n.m n.p 1 (-1))) + F ∧ r = .tuple #[] := by
  have z6 : Cell B (IdeAt x L) x 6 (ptr L.q) := ide_cell rfl
  have z7 : Cell B (IdeAt x L) x 7 (ptr L.s) := ide_cell rfl
  rw [i.eq]
  refine Does.same ?_
  refine fn_intro 10 Tryz.func93 rfl rfl rfl ?_
  refine walk ?_
  refine s_box (cs := nv n) rfl rfl rfl ?_
  intro b
  refine walk ?_
  refine s_call rfl (iHas (x := x) (L := L) (m := n.m) (p := n.p) (a := 1) (g := -1) hm hp) rfl ?_
  rintro _ _ ⟨rfl, rfl⟩
  refine walk ?_
  exact QRet.ent (G := IdeAt x (L.put (L.I.has n.m n.p 1 (-1))) + F) Ent.auto (ret0 (.inl rfl) rfl ⟨Ent.refl _, rfl⟩)
theorem d21 [i : HasAt IdeAt H x L F] (hm : 0 ≤ n.m ∧ n.m < L.I.ms.length) (hp : 0 ≤ n.p ∧ n.p < L.I.ps.length) : Does Tryz.prog B 94 [ptr x, noteV n] H fun r H' => H' = IdeAt x (L.put ((L.I.leaves n.m).pset n.p (-1))) + F ∧ r = .tuple #[] := by
  have z6 : Cell B (IdeAt x L) x 6 (ptr L.q) := ide_cell rfl
  have z7 : Cell B (IdeAt x L) x 7 (ptr L.s) := ide_cell rfl
  rw [i.eq]
  refine Does.same ?_
  obtain ⟨kp, hkp, hpk, _⟩ := pAt_of hp
  have hpt : n.p.toNat = kp := by omega
  have hpl : (zs L.I.ps).length = L.I.ps.length := zs_length _
  have y9 : Cell B (IdeAt x (L.put (L.I.leaves n.m))) x 9 (.slice (some ⟨L.bp, 0, none⟩) L.I.ps.length L.cp) := ide_cell rfl
  refine fn_intro 15 Tryz.func94 rfl rfl rfl ?_
  refine walk ?_
  refine s_box (cs := nv n) rfl rfl rfl ?_
  intro b
  refine walk ?_
  refine s_call rfl (iLeaves (x := x) (L := L) (m := n.m) hm) rfl ?_
  rintro _ _ ⟨rfl, rfl⟩
  refine walk ?_
  (refine wp_draw [7] (.look 0 (.look 1 (.look 2 (.look 3 (.look 4 (.look 5 (.look 6 (.act 7 .nil .stop)))))))) (by kernel_rfl) ?_; refine dwP ?_; refine dwP ?_; refine dwP ?_; refine dwL ?_; refine dwP ?_; refine dwL ?_; (apply dw_pure; (· exact rfl); (· exact rfl); (· (intro G; (apply s_indexAddr (j := kp) (o' := kp); (· exact rfl); (· exact rfl); (· omega); (· omega); (· omega); (· exact rfl)); exact looked))); skip)
  refine dw_do0 rfl rfl ?_ dw_stop
  rw [ide_openP]
  refine s_store (v := .int .i64 (-1)) (cs' := zs (L.I.ps.set kp (-1)) ++ L.sp) rfl rfl rfl ?_ ?_ ?_
  · show kp < (zs L.I.ps ++ L.sp).length; simp only [List.length_append]; omega
  · show (zs L.I.ps ++ L.sp).set kp _ = _; rw [List.set_append_left _ _ (by omega)]; simp [zs, List.map_set]
  refine wpl_nil (qone0 ⟨(by refine st_past (by kernel_rfl) ?_; refine st_past (by kernel_rfl) ?_; exact st_nil), ?_⟩)
  (refine dw_nil ?_; skip)
  refine walk ?_
  refine ret0 (.inl rfl) rfl ⟨?_, rfl⟩
  rw [ide_openP]
  simp only [ideJ, Ide.pset, Ide.leaves, Ide.drops, List.length_set, hpt]
  exact Ent.auto
theorem d23 [i : HasAt IdeAt H x L F] (hp : 0 ≤ n.p ∧ n.p < L.I.ps.length) (hv : 0 ≤ L.I.pAt n.p ∧ L.I.pAt n.p < L.I.ms.length) : Does Tryz.prog B 97 [ptr x, noteV n] H fun r H' => H' = IdeAt x (L.put ((L.I.drops n.p).pset n.p (-2))) + F ∧ r = .tuple #[] := by
  have z6 : Cell B (IdeAt x L) x 6 (ptr L.q) := ide_cell rfl
  have z7 : Cell B (IdeAt x L) x 7 (ptr L.s) := ide_cell rfl
  rw [i.eq]
  refine Does.same ?_
  obtain ⟨kp, hkp, hpk, _⟩ := pAt_of hp
  have hpt : n.p.toNat = kp := by omega
  have hpl : (zs L.I.ps).length = L.I.ps.length := zs_length _
  have y9 : Cell B (IdeAt x (L.put (L.I.drops n.p))) x 9 (.slice (some ⟨L.bp, 0, none⟩) L.I.ps.length L.cp) := ide_cell rfl
  refine fn_intro 15 Tryz.func97 rfl rfl rfl ?_
  refine walk ?_
  refine s_box (cs := nv n) rfl rfl rfl ?_
  intro b
  refine walk ?_
  refine s_call rfl (iDrops (x := x) (L := L) (p := n.p) hp hv) rfl ?_
  rintro _ _ ⟨rfl, rfl⟩
  refine walk ?_
  (refine wp_draw [7] (.look 0 (.look 1 (.look 2 (.look 3 (.look 4 (.look 5 (.look 6 (.act 7 .nil .stop)))))))) (by kernel_rfl) ?_; refine dwP ?_; refine dwP ?_; refine dwP ?_; refine dwL ?_; refine dwP ?_; refine dwL ?_; (apply dw_pure; (· exact rfl); (· exact rfl); (· (intro G; (apply s_indexAddr (j := kp) (o' := kp); (· exact rfl); (· exact rfl); (· omega); (· omega); (· omega); (· exact rfl)); exact looked))); skip)
  refine dw_do0 rfl rfl ?_ dw_stop
  rw [ide_openP]
  refine s_store (v := .int .i64 (-2)) (cs' := zs (L.I.ps.set kp (-2)) ++ L.sp) rfl rfl rfl ?_ ?_ ?_
  · show kp < (zs L.I.ps ++ L.sp).length; simp only [List.length_append]; omega
  · show (zs L.I.ps ++ L.sp).set kp _ = _; rw [List.set_append_left _ _ (by omega)]; simp [zs, List.map_set]
  refine wpl_nil (qone0 ⟨(by refine st_past (by kernel_rfl) ?_; refine st_past (by kernel_rfl) ?_; exact st_nil), ?_⟩)
  (refine dw_nil ?_; skip)
  refine walk ?_
  refine ret0 (.inl rfl) rfl ⟨?_, rfl⟩
  rw [ide_openP]
  simp only [ideJ, Ide.pset, Ide.leaves, Ide.drops, List.length_set, hpt]
  exact Ent.auto
theorem d25 [i : HasAt IdeAt H x L F]  : Does Tryz.prog B 100 [ptr x, noteV n] H fun r H' => H' = IdeAt x (L.put (L.I)) + F ∧ r = .tuple #[] := by
  have z6 : Cell B (IdeAt x L) x 6 (ptr L.q) := ide_cell rfl
  have z7 : Cell B (IdeAt x L) x 7 (ptr L.s) := ide_cell rfl
  rw [i.eq]
  refine Does.same ?_
  refine fn_intro 4 Tryz.func100 rfl rfl rfl ?_
  refine walk ?_
  refine s_box (cs := nv n) rfl rfl rfl ?_
  intro b
  refine walk ?_
  refine walk ?_
  exact QRet.ent (G := IdeAt x (L.put (L.I)) + F) Ent.auto (ret0 (.inl rfl) rfl ⟨Ent.refl _, rfl⟩)
end
end Go.Proofs.YtlhnmbajbhaaoaaGreat
namespace Go.Proofs.YtlhnmbajbhaaoaaGreat
open Go Go.SL
set_option linter.unusedSimpArgs false
set_option linter.unusedVariables false
set_option maxRecDepth 10000
set_option maxHeartbeats 2000000
/-- All kinds, as they lie in an array. -/
def kindsC (c : Cfg) : List Value := [.string ByteArray.empty, .int .i64 0, .nilFunc, .nilFunc,
  str [103, 109, 120], .int .i64 c.g, .func (.func 65) #[] #[], .func (.func 67) #[] #[],
  str [103, 112, 109, 120], .int .i64 2, .func (.func 68) #[] #[], .func (.func 70) #[] #[],
  str [103, 112, 109], .int .i64 0, .func (.func 62) #[] #[], .func (.func 63) #[] #[],
  str [103, 112, 109], .int .i64 0, .func (.func 62) #[] #[], .func (.func 63) #[] #[],
  str [103, 112, 109, 120], .int .i64 4, .func (.func 72) #[] #[], .func (.func 73) #[] #[],
  str [103, 112, 109, 120], .int .i64 4, .func (.func 75) #[] #[], .func (.func 76) #[] #[],
  str [103, 112, 109, 120], .int .i64 4, .func (.func 77) #[] #[], .func (.func 79) #[] #[],
  str [103, 109, 120], .int .i64 4, .func (.func 81) #[] #[], .func (.func 82) #[] #[],
  str [103, 112, 109], .int .i64 0, .func (.func 62) #[] #[], .func (.func 83) #[] #[],
  str [103, 112, 109], .int .i64 0, .func (.func 84) #[] #[], .func (.func 85) #[] #[],
  str [103, 112, 109, 120], .int .i64 2, .func (.func 86) #[] #[], .func (.func 87) #[] #[],
  str [103, 109], .int .i64 0, .func (.func 88) #[] #[], .func (.func 90) #[] #[],
  str [112, 109, 120], .int .i64 2, .func (.func 92) #[] #[], .func (.func 93) #[] #[],
  str [112, 109], .int .i64 0, .func (.func 69) #[] #[], .func (.func 94) #[] #[],
  str [112], .int .i64 0, .func (.func 95) #[] #[], .func (.func 97) #[] #[],
  str [112], .int .i64 0, .func (.func 99) #[] #[], .func (.func 100) #[] #[]]
def mayF (k : Nat) : FuncId := ([0, 65, 68, 62, 62, 72, 75, 77, 81, 62, 84, 86, 88, 92, 69, 95, 99] : List Nat).getD k 0
def doF (k : Nat) : FuncId := ([0, 67, 70, 63, 63, 73, 76, 79, 82, 83, 85, 87, 90, 93, 94, 97, 100] : List Nat).getD k 0
/-- A note's fields from the i-th on. -/
def rightAt (c : Cfg) (f : List UInt8) (xk : Int) (n : Nt) : Nat → Bool
  | 0 => fieldB (decide (103 ∈ f)) n.g c.g && (fieldB (decide (112 ∈ f)) n.p c.n && (fieldB (decide (109 ∈ f)) n.m c.m && fieldB (decide (120 ∈ f)) n.x xk))
  | 1 => fieldB (decide (112 ∈ f)) n.p c.n && (fieldB (decide (109 ∈ f)) n.m c.m && fieldB (decide (120 ∈ f)) n.x xk)
  | 2 => fieldB (decide (109 ∈ f)) n.m c.m && fieldB (decide (120 ∈ f)) n.x xk
  | 3 => fieldB (decide (120 ∈ f)) n.x xk
  | _ => true
abbrev fieldsC (c : Cfg) (xk : Int) (n : Nt) : List Value := [.int .u8 103, .int .i64 n.g, .int .i64 c.g, .int .u8 112, .int .i64 n.p, .int .i64 c.n, .int .u8 109, .int .i64 n.m, .int .i64 c.m, .int .u8 120, .int .i64 n.x, .int .i64 xk]
theorem field_step {c : Cfg} {f : List UInt8} {xk : Int} {n : Nt} {i : Nat} (h : i < 4) : ∃ (ch : UInt8) (v bd : Int), ((fieldsC c xk n).drop (i * 3)).take 3 = [.int .u8 (ch.toNat : Int), .int .i64 v, .int .i64 bd] ∧ rightAt c f xk n i = (fieldB (decide (ch ∈ f)) v bd && rightAt c f xk n (i + 1)) := by
  match i, h with
  | 0, _ => exact ⟨103, n.g, c.g, rfl, rfl⟩
  | 1, _ => exact ⟨112, n.p, c.n, rfl, rfl⟩
  | 2, _ => exact ⟨109, n.m, c.m, rfl, rfl⟩
  | 3, _ => exact ⟨120, n.x, xk, rfl, by simp [rightAt]⟩
attribute [local irreducible] WP WPL QSeq QBlk QRet Does Cell Cells Rd Mine Ent Aside RV Yield TabAt SemAt IdeAt
section
variable {B : World} {H F G : HProp} {x : Nat} {L : IdL} {n : Nt} {l f : List UInt8} {ch : UInt8} {s mv dv : Value} {xk : Int} {K : Int}
theorem idxB (hs : Rd B H 1 s l.length (by8 l)) : Does Tryz.prog B 120 [s, .int .u8 (ch.toNat : Int)] H fun r H' => H' = H ∧ ∃ k : Int, r = .int .i64 k ∧ (0 ≤ k ↔ ch ∈ l) := by
  unfold Rd at hs
  obtain ⟨ao, cap, rfl, _, hm, hc⟩ := hs
  unfold maxLen at hm
  refine fn_intro 19 Tryz.func120 rfl rfl rfl ?_
  refine walk ?_
  refine wp_loopF (α := Nat) [4, 5, 8, 9, 10, 11, 12, 13, 14, 15, 16, 17, 18] (fun k => [(8, .int .i64 k)]) (fun _ => H) (fun k => k ≤ l.length ∧ ch ∉ l.take k) (fun k => l.length - k) 0 agreed (Ent.refl _) ⟨Nat.zero_le _, by simp⟩ ?_
  rintro k g ⟨hk, hi⟩
  simp only [putAll]
  by_cases hlt : k < l.length
  · obtain ⟨b, o, rfl, hcs⟩ := Rd.addr (by simp) hc (k := k) hlt
    have hcell := hcs.cell (j := k) (v := .int .u8 (l[k].toNat : Int)) (by simp [by8, hlt])
    by_cases hx : ch = l[k]
    · have hx' : (ch.toNat : Int) = (l[k].toNat : Int) := by rw [hx]
      refine walk ?_
      (first | refine ret1 (v := .int _ _) (.inr rfl) rfl rfl ?_ | refine ret1  (.inr rfl) rfl rfl ?_ | refine ret1 (v := .int _ _) (.inl rfl) rfl rfl ?_ | refine ret1  (.inl rfl) rfl rfl ?_)
      exact ⟨rfl, k, rfl, fun _ => by rw [hx]; exact List.getElem_mem _, fun _ => by omega⟩
    · have hx' : (ch.toNat : Int) ≠ (l[k].toNat : Int) := fun h => hx (UInt8.toNat_inj.1 (by omega))
      refine walk ?_
      exact ⟨k + 1, asided, agreed, Ent.refl _, ⟨hlt, by rw [List.take_succ_eq_append_getElem hlt, List.mem_append, List.mem_singleton]; exact fun h => h.elim hi hx⟩, by omega⟩
  · rw [List.take_of_length_le (by omega)] at hi
    refine walk ?_
    (first | refine ret1 (v := .int _ _) (.inr rfl) rfl rfl ?_ | refine ret1  (.inr rfl) rfl rfl ?_ | refine ret1 (v := .int _ _) (.inl rfl) rfl rfl ?_ | refine ret1  (.inl rfl) rfl rfl ?_)
    exact ⟨rfl, -1, rfl, fun h => by omega, fun h => absurd h hi⟩
theorem hasB (hs : Rd B H 1 s l.length (by8 l)) : Does Tryz.prog B 109 [s, .int .u8 (ch.toNat : Int)] H fun r H' => H' = H ∧ r = .bool (decide (ch ∈ l)) := by
  refine fn_intro 9 Tryz.func109 rfl rfl rfl ?_
  refine walk ?_
  refine s_call rfl (idxB hs) rfl ?_
  rintro _ _ ⟨e_, k, rfl, hk⟩
  obtain rfl := e_.symm
  by_cases h : ch ∈ l
  · have h0 := hk.2 h
    rw [decide_eq_true h]
    refine walk ?_
    (first | refine ret1 (v := .bool _) (.inr rfl) rfl rfl ?_ | refine ret1  (.inr rfl) rfl rfl ?_ | refine ret1 (v := .bool _) (.inl rfl) rfl rfl ?_ | refine ret1  (.inl rfl) rfl rfl ?_)
    exact ⟨rfl, rfl⟩
  · have h0 : ¬ 0 ≤ k := fun h1 => h (hk.1 h1)
    rw [decide_eq_false h]
    refine walk ?_
    (first | refine ret1 (v := .bool _) (.inr rfl) rfl rfl ?_ | refine ret1  (.inr rfl) rfl rfl ?_ | refine ret1 (v := .bool _) (.inl rfl) rfl rfl ?_ | refine ret1  (.inl rfl) rfl rfl ?_)
    exact ⟨rfl, rfl⟩
theorem iRight [i : HasAt IdeAt H x L F] (hf : f.length ≤ 4) : Does Tryz.prog B 53 [ptr x, .agg [str f, .int .i64 xk, mv, dv].toArray, noteV n] H fun r H' => H' = H ∧ r = .bool (rightAt L.I.c f xk n 0) := by
  have z0 : Cell B (IdeAt x L) x 0 (.int .i64 L.I.c.n) := ide_cell rfl
  have z2 : Cell B (IdeAt x L) x 2 (.int .i64 L.I.c.g) := ide_cell rfl
  have z3 : Cell B (IdeAt x L) x 3 (.int .i64 L.I.c.m) := ide_cell rfl
  rw [i.eq]
  refine Does.frame0 ?_
  refine fn_intro 72 Tryz.func53 rfl rfl rfl ?_
  refine walk ?_
  refine s_box (cs := [str f, .int .i64 xk, mv, dv]) rfl rfl rfl ?_
  intro b4
  refine walk ?_
  refine s_box (cs := nv n) rfl rfl rfl ?_
  intro b5
  refine walk ?_
  (refine wp_draw [] (.look 0 (.look 1 (.look 2 (.look 3 (.look 4 (.look 5 (.look 6 (.look 7 (.look 8 (.look 9 (.look 10 (.look 11 (.look 12 (.look 13 (.look 14 (.look 15 (.look 16 (.look 17 (.look 18 (.look 19 (.look 20 (.look 21 (.look 22 (.look 23 (.look 24 (.look 25 (.look 26 (.look 27 (.look 28 (.look 29 (.look 30 .nil))))))))))))))))))))))))))))))) (by kernel_rfl) ?_; refine dwP ?_; refine dwL ?_; refine dwP ?_; refine dwP ?_; refine dwP ?_; refine dwP ?_; refine dwL ?_; (apply dw_pure; (· exact rfl); (· exact rfl); (· (intro G; (refine s_build (cs := [.int .u8 103, .int .i64 n.g, .int .i64 L.I.c.g]) ?_ rfl ?_; (· kernel_rfl)); exact looked))); refine dwP ?_; refine dwL ?_; refine dwP ?_; refine dwP ?_; refine dwP ?_; refine dwP ?_; refine dwL ?_; (apply dw_pure; (· exact rfl); (· exact rfl); (· (intro G; (refine s_build (cs := [.int .u8 112, .int .i64 n.p, .int .i64 L.I.c.n]) ?_ rfl ?_; (· kernel_rfl)); exact looked))); refine dwP ?_; refine dwL ?_; refine dwP ?_; refine dwP ?_; refine dwP ?_; refine dwP ?_; refine dwL ?_; (apply dw_pure; (· exact rfl); (· exact rfl); (· (intro G; (refine s_build (cs := [.int .u8 109, .int .i64 n.m, .int .i64 L.I.c.m]) ?_ rfl ?_; (· kernel_rfl)); exact looked))); refine dwP ?_; refine dwL ?_; refine dwP ?_; refine dwL ?_; (apply dw_pure; (· exact rfl); (· exact rfl); (· (intro G; (refine s_build (cs := [.int .u8 120, .int .i64 n.x, .int .i64 xk]) ?_ rfl ?_; (· kernel_rfl)); exact looked))); (apply dw_pure; (· exact rfl); (· exact rfl); (· (intro G; (refine s_buildA (cs := fieldsC L.I.c xk n) ?_ rfl ?_; (· kernel_rfl)); exact looked))); refine dwP ?_; refine dw_nil ?_)
  refine walk ?_
  refine wp_loopF (α := Nat) [6, 8, 9, 40, 41, 42, 43, 44, 45, 46, 47, 48, 49, 50, 51, 52, 53, 54, 55, 56, 57, 58, 59, 60, 61, 62, 63, 64, 65, 66, 67, 68, 69, 70, 71] (fun k => [(40, .int .i64 k)]) (fun _ => blk b5 (nv n) 59 + (blk b4 [str f, .int .i64 xk, mv, dv] 90 + (IdeAt x L + F))) (fun k => k ≤ 4 ∧ rightAt L.I.c f xk n k = rightAt L.I.c f xk n 0) (fun k => 4 - k) 0 agreed (Ent.refl _) ⟨by omega, rfl⟩ ?_
  rintro k g ⟨hk, hi⟩
  simp only [putAll]
  by_cases hlt : k < 4
  · obtain ⟨ch, v, bd, hcl, hst⟩ := field_step (c := L.I.c) (f := f) (xk := xk) (n := n) hlt
    rw [hi] at hst
    refine walk ?_
    refine s_indexVA (j := k) (cs := fieldsC L.I.c xk n) (vs := [.int .u8 (ch.toNat : Int), .int .i64 v, .int .i64 bd]) rfl rfl rfl hlt hcl rfl ?_
    refine walk ?_
    refine s_alloc rfl ?_
    intro b8
    refine walk ?_
    refine s_storeV (vs := [.int .u8 (ch.toNat : Int), .int .i64 v, .int .i64 bd]) rfl rfl rfl rfl rfl ?_
    refine walk ?_
    refine s_strBytes rfl (by simp only [maxLen]; omega) rfl ?_
    intro sv sb so rd
    refine walk ?_
    refine s_call rfl (hasB (l := f) (ch := ch) (rd.ent InH.ent)) rfl ?_
    rintro _ _ ⟨e_, rfl⟩
    obtain rfl := e_.symm
    by_cases hin : ch ∈ f
    · rw [decide_eq_true hin]
      by_cases h0 : 0 ≤ v
      · by_cases h1 : v < bd
        · have hfb : rightAt L.I.c f xk n (k + 1) = rightAt L.I.c f xk n 0 := by rw [hst]; simp [fieldB, hin, h0, h1]
          refine walk ?_
          exact ⟨k + 1, asided, agreed, Ent.auto, ⟨by omega, hfb⟩, by omega⟩
        · have hfb : rightAt L.I.c f xk n 0 = false := by rw [hst]; simp [fieldB, hin, h1]
          refine walk ?_
          (first | (apply retRD1 (G := (IdeAt x L + F)) (.inr rfl) rfl; (· first | (refine rv_tmp (v := .bool _) rfl) | exact rv_tmp rfl); (· exact Ent.auto)) | (apply retRD1 (G := (IdeAt x L + F)) (.inl rfl) rfl; (· first | (refine rv_tmp (v := .bool _) rfl) | exact rv_tmp rfl); (· exact Ent.auto)))
          exact ⟨Ent.refl _, by rw [hfb]⟩
      · have hfb : rightAt L.I.c f xk n 0 = false := by rw [hst]; simp [fieldB, hin, h0]
        refine walk ?_
        (first | (apply retRD1 (G := (IdeAt x L + F)) (.inr rfl) rfl; (· first | (refine rv_tmp (v := .bool _) rfl) | exact rv_tmp rfl); (· exact Ent.auto)) | (apply retRD1 (G := (IdeAt x L + F)) (.inl rfl) rfl; (· first | (refine rv_tmp (v := .bool _) rfl) | exact rv_tmp rfl); (· exact Ent.auto)))
        exact ⟨Ent.refl _, by rw [hfb]⟩
    · rw [decide_eq_false hin]
      by_cases h0 : v = -1
      · have hfb : rightAt L.I.c f xk n (k + 1) = rightAt L.I.c f xk n 0 := by rw [hst]; simp [fieldB, hin, h0]
        refine walk ?_
        exact ⟨k + 1, asided, agreed, Ent.auto, ⟨by omega, hfb⟩, by omega⟩
      · have hfb : rightAt L.I.c f xk n 0 = false := by rw [hst]; simp [fieldB, hin, h0]
        refine walk ?_
        (first | (apply retRD1 (G := (IdeAt x L + F)) (.inr rfl) rfl; (· first | (refine rv_tmp (v := .bool _) rfl) | exact rv_tmp rfl); (· exact Ent.auto)) | (apply retRD1 (G := (IdeAt x L + F)) (.inl rfl) rfl; (· first | (refine rv_tmp (v := .bool _) rfl) | exact rv_tmp rfl); (· exact Ent.auto)))
        exact ⟨Ent.refl _, by rw [hfb]⟩
  · have hfb : rightAt L.I.c f xk n 0 = true := by rw [← hi, show k = 4 by omega]; rfl
    refine walk ?_
    (first | (apply retRD1 (G := (IdeAt x L + F)) (.inr rfl) rfl; (· first | (refine rv_tmp (v := .bool _) rfl) | exact rv_tmp rfl); (· exact Ent.auto)) | (apply retRD1 (G := (IdeAt x L + F)) (.inl rfl) rfl; (· first | (refine rv_tmp (v := .bool _) rfl) | exact rv_tmp rfl); (· exact Ent.auto)))
    exact ⟨Ent.refl _, by rw [hfb]⟩
theorem iKinds [i : HasAt IdeAt H x L F] : Does Tryz.prog B 39 [ptr x] H fun r H' => H' = H ∧ r = .agg (kindsC L.I.c).toArray := by
  have z2 : Cell B (IdeAt x L) x 2 (.int .i64 L.I.c.g) := ide_cell rfl
  rw [i.eq]
  refine Does.frame0 ?_
  refine fn_intro 27 Tryz.func39 rfl rfl rfl ?_
  refine walk ?_
  refine s_alloc rfl ?_
  intro b2
  refine walk ?_
  (refine s_build (cs := [str [103, 112, 109], .int .i64 0, .func (.func 62) #[] #[], .func (.func 63) #[] #[]]) ?_ rfl ?_; (· kernel_rfl))
  refine walk ?_
  refine s_alloc rfl ?_
  intro b3
  refine walk ?_
  refine s_storeV (vs := [str [103, 112, 109], .int .i64 0, .func (.func 62) #[] #[], .func (.func 63) #[] #[]]) rfl rfl rfl rfl rfl ?_
  refine walk ?_
  (refine wp_draw [22] (.look 0 (.look 1 (.look 2 (.look 3 (.look 4 (.look 5 (.look 6 (.look 7 (.look 8 (.look 9 (.look 10 (.look 11 (.look 12 (.look 13 (.look 14 (.look 15 (.look 16 (.look 17 (.look 18 (.look 19 (.look 20 (.look 21 (.act 22 .nil .stop))))))))))))))))))))))) (by kernel_rfl) ?_; refine dwP ?_; refine dwP ?_; refine dwP ?_; refine dwP ?_; refine dwL ?_; (apply dw_pure; (· exact rfl); (· exact rfl); (· (intro G; (refine s_build (cs := [str [103, 109, 120], .int .i64 L.I.c.g, .func (.func 65) #[] #[], .func (.func 67) #[] #[]]) ?_ rfl ?_; (· kernel_rfl)); exact looked))); (apply dw_pure; (· exact rfl); (· exact rfl); (· (intro G; (refine s_build (cs := [str [103, 112, 109, 120], .int .i64 2, .func (.func 68) #[] #[], .func (.func 70) #[] #[]]) ?_ rfl ?_; (· kernel_rfl)); exact looked))); refine dwL ?_; refine dwL ?_; (apply dw_pure; (· exact rfl); (· exact rfl); (· (intro G; (refine s_build (cs := [str [103, 112, 109, 120], .int .i64 4, .func (.func 72) #[] #[], .func (.func 73) #[] #[]]) ?_ rfl ?_; (· kernel_rfl)); exact looked))); (apply dw_pure; (· exact rfl); (· exact rfl); (· (intro G; (refine s_build (cs := [str [103, 112, 109, 120], .int .i64 4, .func (.func 75) #[] #[], .func (.func 76) #[] #[]]) ?_ rfl ?_; (· kernel_rfl)); exact looked))); (apply dw_pure; (· exact rfl); (· exact rfl); (· (intro G; (refine s_build (cs := [str [103, 112, 109, 120], .int .i64 4, .func (.func 77) #[] #[], .func (.func 79) #[] #[]]) ?_ rfl ?_; (· kernel_rfl)); exact looked))); (apply dw_pure; (· exact rfl); (· exact rfl); (· (intro G; (refine s_build (cs := [str [103, 109, 120], .int .i64 4, .func (.func 81) #[] #[], .func (.func 82) #[] #[]]) ?_ rfl ?_; (· kernel_rfl)); exact looked))); (apply dw_pure; (· exact rfl); (· exact rfl); (· (intro G; (refine s_build (cs := [str [103, 112, 109], .int .i64 0, .func (.func 62) #[] #[], .func (.func 83) #[] #[]]) ?_ rfl ?_; (· kernel_rfl)); exact looked))); (apply dw_pure; (· exact rfl); (· exact rfl); (· (intro G; (refine s_build (cs := [str [103, 112, 109], .int .i64 0, .func (.func 84) #[] #[], .func (.func 85) #[] #[]]) ?_ rfl ?_; (· kernel_rfl)); exact looked))); (apply dw_pure; (· exact rfl); (· exact rfl); (· (intro G; (refine s_build (cs := [str [103, 112, 109, 120], .int .i64 2, .func (.func 86) #[] #[], .func (.func 87) #[] #[]]) ?_ rfl ?_; (· kernel_rfl)); exact looked))); (apply dw_pure; (· exact rfl); (· exact rfl); (· (intro G; (refine s_build (cs := [str [103, 109], .int .i64 0, .func (.func 88) #[] #[], .func (.func 90) #[] #[]]) ?_ rfl ?_; (· kernel_rfl)); exact looked))); (apply dw_pure; (· exact rfl); (· exact rfl); (· (intro G; (refine s_build (cs := [str [112, 109, 120], .int .i64 2, .func (.func 92) #[] #[], .func (.func 93) #[] #[]]) ?_ rfl ?_; (· kernel_rfl)); exact looked))); (apply dw_pure; (· exact rfl); (· exact rfl); (· (intro G; (refine s_build (cs := [str [112, 109], .int .i64 0, .func (.func 69) #[] #[], .func (.func 94) #[] #[]]) ?_ rfl ?_; (· kernel_rfl)); exact looked))); (apply dw_pure; (· exact rfl); (· exact rfl); (· (intro G; (refine s_build (cs := [str [112], .int .i64 0, .func (.func 95) #[] #[], .func (.func 97) #[] #[]]) ?_ rfl ?_; (· kernel_rfl)); exact looked))); (apply dw_pure; (· exact rfl); (· exact rfl); (· (intro G; (refine s_build (cs := [str [112], .int .i64 0, .func (.func 99) #[] #[], .func (.func 100) #[] #[]]) ?_ rfl ?_; (· kernel_rfl)); exact looked))); (apply dw_pure; (· exact rfl); (· exact rfl); (· (intro G; (refine s_buildA (cs := kindsC L.I.c) ?_ rfl ?_; (· kernel_rfl)); exact looked))); skip)
  refine dw_do0 rfl rfl ?_ dw_stop
  refine s_storeV (vs := kindsC L.I.c) rfl rfl rfl rfl rfl ?_
  refine wpl_nil (qone0 ⟨(by refine st_past (by kernel_rfl) ?_; refine st_past (by kernel_rfl) ?_; refine st_past (by kernel_rfl) ?_; exact st_nil), ?_⟩)
  (refine dw_nil ?_; skip)
  refine walk ?_
  refine retR1 (.inr rfl) rfl (rv_cellA rfl Cells.blk0 rfl) ⟨?_, rfl⟩
  exact Ent.auto
end
end Go.Proofs.YtlhnmbajbhaaoaaGreat
namespace Go.Proofs.YtlhnmbajbhaaoaaGreat
open Go Go.SL
set_option linter.unusedSimpArgs false
set_option linter.unusedVariables false
set_option maxHeartbeats 1000000
theorem Tab.ok.mono {T : Tab} {K : Int} (ok : T.ok K) : T.ok (K + 1) := by
  have h0 := ok.k0
  have hl := ok.long
  exact ⟨ok.size, ok.row, fun q hq => by have := ok.all q hq; omega, by omega, by omega⟩
theorem Tab.set_len (T : Tab) (g s : Int) : (T.set g s).2.all.length = T.all.length := by
  unfold Tab.set
  split
  · split
    · simp
    · rfl
  · rfl
theorem Tab.make_len (T : Tab) : T.make.2.2.all.length = T.all.length := by
  unfold Tab.make
  split
  · rfl
  · simp
theorem acq_sem {S : SemS} {s g : Int} : (acqS S s g).1.length = S.length ∧ ∀ K : Int, (∀ (i : Nat) (l : List Int) (x : Int), S[i]? = some (l, x) → (l.length : Int) ≤ K) → ∀ (i : Nat) (l : List Int) (x : Int), (acqS S s g).1[i]? = some (l, x) → (l.length : Int) ≤ K + 1 := by
  have same : ∀ K : Int, (∀ (i : Nat) (l : List Int) (x : Int), S[i]? = some (l, x) → (l.length : Int) ≤ K) → ∀ (i : Nat) (l : List Int) (x : Int), S[i]? = some (l, x) → (l.length : Int) ≤ K + 1 := fun K h i l x hi => by have := h i l x hi; omega
  have md : ∀ (j : Nat) (f : List Int × Int → List Int × Int), (∀ r, (f r).1.length ≤ r.1.length + 1) → (S.modify j f).length = S.length ∧ ∀ K : Int, (∀ (i : Nat) (l : List Int) (x : Int), S[i]? = some (l, x) → (l.length : Int) ≤ K) → ∀ (i : Nat) (l : List Int) (x : Int), (S.modify j f)[i]? = some (l, x) → (l.length : Int) ≤ K + 1 := by
    intro j f hf
    refine ⟨List.length_modify .., fun K h i l x hi => ?_⟩
    rw [List.getElem?_modify] at hi
    cases hS : S[i]? with
    | none => rw [hS] at hi; simp at hi
    | some r =>
      rw [hS] at hi
      simp only [Option.map_eq_map, Option.map_some, Option.some.injEq] at hi
      have h1 := h i r.1 r.2 hS
      split at hi
      · have h2 := hf r
        have e : (f r).1 = l := congrArg (·.1) hi
        rw [e] at h2
        omega
      · have e : r.1 = l := congrArg (·.1) hi
        rw [e] at h1
        omega
  unfold acqS
  split
  · exact ⟨rfl, same⟩
  · split
    · exact ⟨rfl, same⟩
    · split
      · split
        · exact md _ _ fun r => by simp
        · exact md _ _ fun r => by simp
      · exact ⟨rfl, same⟩
theorem rel_sem {S : SemS} {s : Int} : (relS S s).1.length = S.length ∧ ∀ K : Int, (∀ (i : Nat) (l : List Int) (x : Int), S[i]? = some (l, x) → (l.length : Int) ≤ K) → ∀ (i : Nat) (l : List Int) (x : Int), (relS S s).1[i]? = some (l, x) → (l.length : Int) ≤ K := by
  unfold relS
  split
  · exact ⟨rfl, fun _ h => h⟩
  · split
    · rename_i g l c hs
      refine ⟨List.length_set .., fun K h i l' x hi => ?_⟩
      rw [List.getElem?_set] at hi
      split at hi
      · rename_i e
        subst e
        split at hi
        · simp only [Option.some.injEq, Prod.mk.injEq] at hi
          have := h _ _ _ hs
          rw [← hi.1]
          simp only [List.length_cons] at this
          omega
        · cases hi
      · exact h _ _ _ hi
    · split
      · exact ⟨rfl, fun _ h => h⟩
      · refine ⟨List.length_modify .., fun K h i l' x hi => ?_⟩
        unfold countS at hi
        rw [List.getElem?_modify] at hi
        cases hS : S[i]? with
        | none => rw [hS] at hi; simp at hi
        | some r =>
          rw [hS] at hi
          simp only [Option.map_eq_map, Option.map_some, Option.some.injEq] at hi
          have h1 := h i r.1 r.2 hS
          split at hi
          · have e : r.1 = l' := congrArg (·.1) hi
            rw [← e]; exact h1
          · have e : r.1 = l' := congrArg (·.1) hi
            rw [← e]; exact h1
    · exact ⟨rfl, fun _ h => h⟩
section
variable {I : Ide} {K : Int} {n : Nt} {m p a g s v : Int}
theorem Ide.ok.mono (ok : I.ok K) : I.ok (K + 1) := ⟨ok.c, ok.ml, ok.pl, ok.pm, ok.tab.mono, ok.tl, ok.sl, fun i l x h => by have := ok.sk i l x h; omega, by have := ok.many; omega⟩
theorem Ide.ok.tset (ok : I.ok K) : (I.tset g s).ok (K + 1) := ⟨ok.c, ok.ml, ok.pl, ok.pm, ok.tab.set g s, by show ((I.tab.set g s).2.all.length : Int) = I.c.g; rw [Tab.set_len]; exact ok.tl, ok.sl, fun i l x h => by have := ok.sk i l x h; omega, by have := ok.many; show 0 ≤ I.many ∧ I.many ≤ K + 1; omega⟩
theorem Ide.ok.make (ok : I.ok K) : ({ I with tab := I.tab.make.2.2 } : Ide).ok (K + 1) := ⟨ok.c, ok.ml, ok.pl, ok.pm, ok.tab.make, by show (I.tab.make.2.2.all.length : Int) = I.c.g; rw [Tab.make_len]; exact ok.tl, ok.sl, fun i l x h => by have := ok.sk i l x h; omega, by have := ok.many; show 0 ≤ I.many ∧ I.many ≤ K + 1; omega⟩
theorem Ide.ok.acq (ok : I.ok K) : ({ I with sem := (acqS I.sem s g).1 } : Ide).ok (K + 1) := ⟨ok.c, ok.ml, ok.pl, ok.pm, ok.tab.mono, ok.tl, by show (acqS I.sem s g).1.length = 4; rw [acq_sem.1]; exact ok.sl, acq_sem.2 K ok.sk, by have := ok.many; show 0 ≤ I.many ∧ I.many ≤ K + 1; omega⟩
theorem Ide.ok.rel (ok : I.ok K) : ({ I with sem := (relS I.sem s).1 } : Ide).ok K := ⟨ok.c, ok.ml, ok.pl, ok.pm, ok.tab, ok.tl, by show (relS I.sem s).1.length = 4; rw [rel_sem.1]; exact ok.sl, rel_sem.2 K ok.sk, ok.many⟩
theorem Ide.ok.has (ok : I.ok K) (hm : m < I.c.m) : (I.has m p a g).ok K := by
  refine ⟨ok.c, ?_, ?_, ?_, ok.tab, ok.tl, ok.sl, ok.sk, ok.many⟩
  · show ((I.ms.modify m.toNat _).length : Int) = I.c.m
    rw [List.length_modify]; exact ok.ml
  · show ((if 0 ≤ p then I.ps.set p.toNat m else I.ps).length : Int) = I.c.n
    split
    · rw [List.length_set]; exact ok.pl
    · exact ok.pl
  · show ∀ q ∈ (if 0 ≤ p then I.ps.set p.toNat m else I.ps), q < I.c.m
    split
    · intro q hq
      rcases mem_set_of hq with h | rfl
      · exact ok.pm q h
      · exact hm
    · exact ok.pm
theorem Ide.ok.msMod (ok : I.ok K) (k : Nat) (f : Mc → Mc) : ({ I with ms := I.ms.modify k f } : Ide).ok K := ⟨ok.c, by show ((I.ms.modify k f).length : Int) = I.c.m; rw [List.length_modify]; exact ok.ml, ok.pl, ok.pm, ok.tab, ok.tl, ok.sl, ok.sk, ok.many⟩
theorem Ide.ok.pset (ok : I.ok K) (hv : v < I.c.m) : (I.pset p v).ok K := by
  refine ⟨ok.c, ok.ml, ?_, ?_, ok.tab, ok.tl, ok.sl, ok.sk, ok.many⟩
  · show ((I.ps.set p.toNat v).length : Int) = I.c.n
    rw [List.length_set]; exact ok.pl
  · intro q hq
    rcases mem_set_of hq with h | rfl
    · exact ok.pm q h
    · exact hv
theorem Ide.ok.one (ok : I.ok K) : ({ I with many := I.many + 1 } : Ide).ok (K + 1) := ⟨ok.c, ok.ml, ok.pl, ok.pm, ok.tab.mono, ok.tl, ok.sl, fun i l x h => by have := ok.sk i l x h; omega, by have := ok.many; show 0 ≤ I.many + 1 ∧ I.many + 1 ≤ K + 1; omega⟩
/-- What a right note's fields are. -/
theorem right_of {c : Cfg} (h : rightB c n = true) : (103 ∈ fK n.kind → 0 ≤ n.g ∧ n.g < c.g) ∧ (112 ∈ fK n.kind → 0 ≤ n.p ∧ n.p < c.n) ∧ (109 ∈ fK n.kind → 0 ≤ n.m ∧ n.m < c.m) ∧ (120 ∈ fK n.kind → 0 ≤ n.x ∧ n.x < xK c n.kind) := by
  unfold rightB at h
  simp only [Bool.and_eq_true] at h
  obtain ⟨h1, h2, h3, h4⟩ := h
  have key : ∀ {b : Bool} {v w : Int}, fieldB b v w = true → b = true → 0 ≤ v ∧ v < w := by
    intro b v w hb e
    subst e
    simpa [fieldB] using hb
  exact ⟨fun e => key h1 (decide_eq_true e), fun e => key h2 (decide_eq_true e), fun e => key h3 (decide_eq_true e), fun e => key h4 (decide_eq_true e)⟩
/-- A note is done, and told. -/
def stepI (I : Ide) (n : Nt) : Ide := { doK I n with many := (doK I n).many + 1 }
theorem kinds_or (h : 1 ≤ n.kind ∧ n.kind ≤ 16) : n.kind = 1 ∨ n.kind = 2 ∨ n.kind = 3 ∨ n.kind = 4 ∨ n.kind = 5 ∨ n.kind = 6 ∨ n.kind = 7 ∨ n.kind = 8 ∨ n.kind = 9 ∨ n.kind = 10 ∨ n.kind = 11 ∨ n.kind = 12 ∨ n.kind = 13 ∨ n.kind = 14 ∨ n.kind = 15 ∨ n.kind = 16 := by omega
theorem Ide.ok.doK (ok : I.ok K) (hr : rightB I.c n = true) (hk : 1 ≤ n.kind ∧ n.kind ≤ 16) : (doK I n).ok (K + 2) := by
  obtain ⟨hg, hp, hm, hx⟩ := right_of hr
  have hcm : 0 < I.c.m := by have := ok.ml; have := ok.c; obtain ⟨_, h1, _, _, _, h2, _⟩ := this; omega
  have m2 : I.ok (K + 2) := by have := ok.mono.mono; rwa [Int.add_assoc] at this
  have up : ∀ {J : Ide}, J.ok (K + 1) → J.ok (K + 2) := fun h => by have := h.mono; rwa [Int.add_assoc] at this
  obtain ⟨kind, g, p, m, x⟩ := n
  simp only at hg hp hm hx hk
  rcases kinds_or (n := ⟨kind, g, p, m, x⟩) hk with h | h | h | h | h | h | h | h | h | h | h | h | h | h | h | h <;> (simp only at h; subst h)
  · exact up ok.make
  · exact up (ok.tset.has (hm (by decide)).2)
  · exact up (ok.tset.has (hm (by decide)).2)
  · exact up (ok.tset.has (hm (by decide)).2)
  · exact up ok.acq
  · have h2 := (ok.acq (s := x) (g := g)).tset (g := g) (s := 3)
    rw [Int.add_assoc] at h2
    exact h2.has (p := p) (a := 1) (g := -1) (hm (by decide)).2
  · exact m2.rel
  · exact up (ok.rel.tset)
  · exact up (ok.tset.has (hm (by decide)).2)
  · exact up ((ok.tset.has (hm (by decide)).2).msMod _ _)
  · show (Ide.has (Ide.tset (if x = 1 then I.drops p else I) g 2) m p 2 g).ok (K + 2)
    split
    · exact up ((Ide.ok.tset (ok.msMod _ _)).has (hm (by decide)).2)
    · exact up (ok.tset.has (hm (by decide)).2)
  · exact up (ok.tset.msMod _ _)
  · exact m2.has (hm (by decide)).2
  · exact (m2.msMod _ _).pset (by show (-1 : Int) < I.c.m; omega)
  · exact (m2.msMod _ _).pset (by show (-2 : Int) < I.c.m; omega)
  · exact m2
theorem mayB_of (h : mayB I n = true) : (1 ≤ n.kind ∧ n.kind ≤ 16) ∧ rightB I.c n = true ∧ mayK I n = true := by
  unfold mayB at h
  simp only [Bool.and_eq_true, decide_eq_true_eq] at h
  exact h
theorem Ide.ok.step (ok : I.ok K) (h : mayB I n = true) : (stepI I n).ok (K + 3) := by
  obtain ⟨h1, h2, _⟩ := mayB_of h
  have := (ok.doK h2 h1).one
  rw [Int.add_assoc] at this
  exact this
end
end Go.Proofs.YtlhnmbajbhaaoaaGreat
namespace Go.Proofs.YtlhnmbajbhaaoaaGreat
open Go Go.SL
set_option linter.unusedSimpArgs false
set_option linter.unusedVariables false
set_option maxRecDepth 10000
set_option maxHeartbeats 2000000
theorem kind_at {c : Cfg} {k : Nat} (h : 1 ≤ k ∧ k ≤ 16) : ((kindsC c).drop (k * 4)).take 4 = [str (fK (k : Int)), .int .i64 (xK c (k : Int)), .func (.func (mayF k)) #[] #[], .func (.func (doF k)) #[] #[]] := by
  have h' : k = 1 ∨ k = 2 ∨ k = 3 ∨ k = 4 ∨ k = 5 ∨ k = 6 ∨ k = 7 ∨ k = 8 ∨ k = 9 ∨ k = 10 ∨ k = 11 ∨ k = 12 ∨ k = 13 ∨ k = 14 ∨ k = 15 ∨ k = 16 := by omega
  rcases h' with rfl | rfl | rfl | rfl | rfl | rfl | rfl | rfl | rfl | rfl | rfl | rfl | rfl | rfl | rfl | rfl <;> rfl
theorem fK_len (k : Int) : (fK k).length ≤ 4 := by
  unfold fK
  (repeat' split) <;> simp
theorem may_call {k : Nat} (h : 1 ≤ k ∧ k ≤ 16) : Callable Tryz.prog (mayF k) := by
  have h' : k = 1 ∨ k = 2 ∨ k = 3 ∨ k = 4 ∨ k = 5 ∨ k = 6 ∨ k = 7 ∨ k = 8 ∨ k = 9 ∨ k = 10 ∨ k = 11 ∨ k = 12 ∨ k = 13 ∨ k = 14 ∨ k = 15 ∨ k = 16 := by omega
  rcases h' with rfl | rfl | rfl | rfl | rfl | rfl | rfl | rfl | rfl | rfl | rfl | rfl | rfl | rfl | rfl | rfl <;> exact Callable.of (by kernel_rfl)
theorem do_call {k : Nat} (h : 1 ≤ k ∧ k ≤ 16) : Callable Tryz.prog (doF k) := by
  have h' : k = 1 ∨ k = 2 ∨ k = 3 ∨ k = 4 ∨ k = 5 ∨ k = 6 ∨ k = 7 ∨ k = 8 ∨ k = 9 ∨ k = 10 ∨ k = 11 ∨ k = 12 ∨ k = 13 ∨ k = 14 ∨ k = 15 ∨ k = 16 := by omega
  rcases h' with rfl | rfl | rfl | rfl | rfl | rfl | rfl | rfl | rfl | rfl | rfl | rfl | rfl | rfl | rfl | rfl <;> exact Callable.of (by kernel_rfl)
attribute [local irreducible] WP WPL QSeq QBlk QRet Does Cell Cells Rd Mine Ent Aside RV Yield TabAt SemAt IdeAt
section
variable {B : World} {H F G : HProp} {x : Nat} {L : IdL} {n : Nt} {K : Int}
theorem pAt_lt (ok : L.I.ok K) {p : Int} (hp : 0 ≤ p ∧ p < L.I.c.n) : L.I.pAt p < L.I.ms.length := by
  have hpl := ok.pl
  have hml := ok.ml
  obtain ⟨k, hk, _, e⟩ := pAt_of (L := L) (p := p) (by omega)
  rw [e]
  have := ok.pm _ (List.getElem_mem hk)
  omega
theorem may_any [i : HasAt IdeAt H x L F] (ok : L.I.ok K) (hK : K ≤ 100000) (hr : rightB L.I.c n = true) {k : Nat} (hn : n.kind = (k : Int)) (hk : 1 ≤ k ∧ k ≤ 16) : Does Tryz.prog B (mayF k) [ptr x, noteV n] H fun r H' => H' = H ∧ r = .bool (mayK L.I n) := by
  obtain ⟨hg, hp, hm, hx⟩ := right_of hr
  have hpl := ok.pl
  have hml := ok.ml
  have hlk : LOk L.I.sem := rowS_all ok.sk hK
  have hc := ok.c
  obtain ⟨_, c1, c2, _, _, c3, c4, _⟩ := hc
  have hv : 0 ≤ n.p ∧ n.p < L.I.c.n → L.I.pAt n.p < L.I.ms.length := fun h => pAt_lt ok h
  obtain ⟨kind, g, p, m, x⟩ := n
  simp only at hg hp hm hx hn hv
  subst hn
  have h' : k = 1 ∨ k = 2 ∨ k = 3 ∨ k = 4 ∨ k = 5 ∨ k = 6 ∨ k = 7 ∨ k = 8 ∨ k = 9 ∨ k = 10 ∨ k = 11 ∨ k = 12 ∨ k = 13 ∨ k = 14 ∨ k = 15 ∨ k = 16 := by omega
  rcases h' with rfl | rfl | rfl | rfl | rfl | rfl | rfl | rfl | rfl | rfl | rfl | rfl | rfl | rfl | rfl | rfl
  · have hm : 0 ≤ m ∧ m < (L.I.ms.length : Int) := by have := hm (by decide); omega
    exact k2 hm ok.tab hK
  · have hm : 0 ≤ m ∧ m < (L.I.ms.length : Int) := by have := hm (by decide); omega
    exact k4 hm
  · have hm : 0 ≤ m ∧ m < (L.I.ms.length : Int) := by have := hm (by decide); omega
    exact iRuns hm
  · have hm : 0 ≤ m ∧ m < (L.I.ms.length : Int) := by have := hm (by decide); omega
    exact iRuns hm
  · have hm : 0 ≤ m ∧ m < (L.I.ms.length : Int) := by have := hm (by decide); omega
    exact k6 hm
  · have hm : 0 ≤ m ∧ m < (L.I.ms.length : Int) := by have := hm (by decide); omega
    exact k8 hm
  · have hm : 0 ≤ m ∧ m < (L.I.ms.length : Int) := by have := hm (by decide); omega
    exact k10 hm hlk
  · have hm : 0 ≤ m ∧ m < (L.I.ms.length : Int) := by have := hm (by decide); omega
    exact k12 hm hlk
  · have hm : 0 ≤ m ∧ m < (L.I.ms.length : Int) := by have := hm (by decide); omega
    exact iRuns hm
  · have hm : 0 ≤ m ∧ m < (L.I.ms.length : Int) := by have := hm (by decide); omega
    exact k15 hm (by omega) (by omega)
  · have hm : 0 ≤ m ∧ m < (L.I.ms.length : Int) := by have := hm (by decide); omega
    have hq := hp (by decide)
    have hp : 0 ≤ p ∧ p < (L.I.ps.length : Int) := by omega
    exact kBack hm hp (hv hq)
  · have hm : 0 ≤ m ∧ m < (L.I.ms.length : Int) := by have := hm (by decide); omega
    exact k17 hm
  · have hm : 0 ≤ m ∧ m < (L.I.ms.length : Int) := by have := hm (by decide); omega
    have hq := hp (by decide)
    have hp : 0 ≤ p ∧ p < (L.I.ps.length : Int) := by omega
    exact k19 hm hp (hx (by decide))
  · have hm : 0 ≤ m ∧ m < (L.I.ms.length : Int) := by have := hm (by decide); omega
    exact iSearches hm
  · have hq := hp (by decide)
    have hp : 0 ≤ p ∧ p < (L.I.ps.length : Int) := by omega
    exact k22 hp (hv hq)
  · exact k24
theorem do_any [i : HasAt IdeAt H x L F] (ok : L.I.ok K) (hK : K ≤ 100000) (hr : rightB L.I.c n = true) (hy : mayK L.I n = true) {k : Nat} (hn : n.kind = (k : Int)) (hk : 1 ≤ k ∧ k ≤ 16) : Does Tryz.prog B (doF k) [ptr x, noteV n] H fun r H' => H' = IdeAt x (L.put (doK L.I n)) + F ∧ r = .tuple #[] := by
  obtain ⟨hg, hp, hm, hx⟩ := right_of hr
  have hpl := ok.pl
  have hml := ok.ml
  have hv : 0 ≤ n.p ∧ n.p < L.I.c.n → L.I.pAt n.p < L.I.ms.length := fun h => pAt_lt ok h
  obtain ⟨kind, g, p, m, x⟩ := n
  simp only at hg hp hm hx hn hv
  subst hn
  have h' : k = 1 ∨ k = 2 ∨ k = 3 ∨ k = 4 ∨ k = 5 ∨ k = 6 ∨ k = 7 ∨ k = 8 ∨ k = 9 ∨ k = 10 ∨ k = 11 ∨ k = 12 ∨ k = 13 ∨ k = 14 ∨ k = 15 ∨ k = 16 := by omega
  rcases h' with rfl | rfl | rfl | rfl | rfl | rfl | rfl | rfl | rfl | rfl | rfl | rfl | rfl | rfl | rfl | rfl
  · exact d3 ok.tab hK
  · have hm : 0 ≤ m ∧ m < (L.I.ms.length : Int) := by have := hm (by decide); omega
    have hq := hp (by decide)
    have hp : 0 ≤ p ∧ p < (L.I.ps.length : Int) := by omega
    exact d5 hm hp ok.tab hK
  · have hm : 0 ≤ m ∧ m < (L.I.ms.length : Int) := by have := hm (by decide); omega
    have hq := hp (by decide)
    have hp : 0 ≤ p ∧ p < (L.I.ps.length : Int) := by omega
    exact d1 hm hp ok.tab hK
  · have hm : 0 ≤ m ∧ m < (L.I.ms.length : Int) := by have := hm (by decide); omega
    have hq := hp (by decide)
    have hp : 0 ≤ p ∧ p < (L.I.ps.length : Int) := by omega
    exact d1 hm hp ok.tab hK
  · exact d7
  · have hm : 0 ≤ m ∧ m < (L.I.ms.length : Int) := by have := hm (by decide); omega
    have hq := hp (by decide)
    have hp : 0 ≤ p ∧ p < (L.I.ps.length : Int) := by omega
    exact d9 hm hp ok.tab hK
  · exact d11
  · exact d13 ok.tab hK
  · have hm : 0 ≤ m ∧ m < (L.I.ms.length : Int) := by have := hm (by decide); omega
    have hq := hp (by decide)
    have hp : 0 ≤ p ∧ p < (L.I.ps.length : Int) := by omega
    exact d14 hm hp ok.tab hK
  · have hm : 0 ≤ m ∧ m < (L.I.ms.length : Int) := by have := hm (by decide); omega
    have hq := hp (by decide)
    have hp : 0 ≤ p ∧ p < (L.I.ps.length : Int) := by omega
    exact d16 hm hp ok.tab hK
  · have hm : 0 ≤ m ∧ m < (L.I.ms.length : Int) := by have := hm (by decide); omega
    have hq := hp (by decide)
    have hp : 0 ≤ p ∧ p < (L.I.ps.length : Int) := by omega
    refine dComes hm hp ok.tab hK fun h1 => ⟨?_, hv hq⟩
    have h1 : x = 1 := h1
    subst h1
    have e : mayK L.I ⟨((11 : Nat) : Int), g, p, m, 1⟩ = (callsB L.I ⟨((11 : Nat) : Int), g, p, m, 1⟩ && (decide ((L.I.mAt m).b = p) && L.I.kept p)) := rfl
    rw [e] at hy
    simp only [Bool.and_eq_true, Ide.kept, decide_eq_true_eq] at hy
    exact hy.2.2.1
  · have hm : 0 ≤ m ∧ m < (L.I.ms.length : Int) := by have := hm (by decide); omega
    exact d18 hm ok.tab hK
  · have hm : 0 ≤ m ∧ m < (L.I.ms.length : Int) := by have := hm (by decide); omega
    have hq := hp (by decide)
    have hp : 0 ≤ p ∧ p < (L.I.ps.length : Int) := by omega
    exact d20 hm hp
  · have hm : 0 ≤ m ∧ m < (L.I.ms.length : Int) := by have := hm (by decide); omega
    have hq := hp (by decide)
    have hp : 0 ≤ p ∧ p < (L.I.ps.length : Int) := by omega
    exact d21 hm hp
  · have hq := hp (by decide)
    have hp : 0 ≤ p ∧ p < (L.I.ps.length : Int) := by omega
    refine d23 hp ⟨?_, hv hq⟩
    have e : mayK L.I ⟨((15 : Nat) : Int), g, p, m, x⟩ = L.I.kept p := rfl
    rw [e] at hy
    simp only [Bool.and_eq_true, Ide.kept, decide_eq_true_eq] at hy
    exact hy.1
  · exact d25
theorem iMay [i : HasAt IdeAt H x L F] (ok : L.I.ok K) (hK : K ≤ 100000) : Does Tryz.prog B 23 [ptr x, noteV n] H fun r H' => H' = H ∧ r = .bool (mayB L.I n) := by
  rw [i.eq]
  refine Does.frame0 ?_
  unfold mayB
  by_cases h1 : 1 ≤ n.kind
  · by_cases h2 : n.kind ≤ 16
    · obtain ⟨k, hk⟩ := Int.eq_ofNat_of_zero_le (show 0 ≤ n.kind by omega)
      have hk1 : 1 ≤ k ∧ k ≤ 16 := by omega
      have hka := kind_at (c := L.I.c) hk1
      rw [← hk] at hka
      rw [decide_eq_true (show 1 ≤ n.kind ∧ n.kind ≤ 16 from ⟨h1, h2⟩), Bool.true_and]
      haveI := may_call hk1
      refine fn_intro 34 Tryz.func23 rfl rfl rfl ?_
      refine walk ?_
      refine s_box (cs := nv n) rfl rfl rfl ?_
      intro b
      refine walk ?_
      (refine wp_draw [1, 5, 6] (.look 0 (.look 2 (.look 3 (.act 1 (.look 4 (.act 5 (.act 6 .nil .stop) .stop)) (.act 5 (.act 1 (.look 4 (.act 6 .nil .stop)) .stop) .stop))))) (by kernel_rfl) ?_; refine dwP ?_; refine dwP ?_; refine dwL ?_; skip)
      refine dw_do rfl rfl ?_ (dw_do rfl rfl ?_ dw_stop)
      · skip
        refine s_call rfl (iKinds (L := L) (x := x)) rfl ?_
        rintro _ _ ⟨e_, rfl⟩
        obtain rfl := e_.symm
        refine wpl_nil (qone ⟨(by (refine st_again ?_ ?_; (· exact looked)); exact st_nil), ?_⟩)
        ((apply dw_pure; (· exact rfl); (· exact rfl); (· (intro G; refine s_indexVA (j := k) (cs := kindsC L.I.c) (vs := [str (fK n.kind), .int .i64 (xK L.I.c n.kind), .func (.func (mayF k)) #[] #[], .func (.func (doF k)) #[] #[]]) rfl rfl hk (by omega) hka rfl ?_; exact looked))); skip)
        refine dw_do rfl rfl ?_ dw_stop
        refine s_alloc rfl ?_
        intro b5
        refine wpl_nil (qone ⟨(by (refine st_again ?_ ?_; (· exact looked)); exact st_nil), ?_⟩)
        (skip)
        refine dw_do0 rfl rfl ?_ dw_stop
        refine s_storeV (vs := [str (fK n.kind), .int .i64 (xK L.I.c n.kind), .func (.func (mayF k)) #[] #[], .func (.func (doF k)) #[] #[]]) rfl rfl rfl rfl rfl ?_
        refine wpl_nil (qone0 ⟨(by refine st_past (by kernel_rfl) ?_; exact st_nil), ?_⟩)
        (refine dw_nil ?_; skip)
        refine walk ?_
        refine s_call rfl (iRight (x := x) (L := L) (n := n) (f := fK n.kind) (xk := xK L.I.c n.kind) (fK_len _)) rfl ?_
        rintro _ _ ⟨e_, rfl⟩
        obtain rfl := e_.symm
        rw [show rightAt L.I.c (fK n.kind) (xK L.I.c n.kind) n 0 = rightB L.I.c n from rfl]
        cases hr : rightB L.I.c n with
        | false =>
          refine walk ?_
          (first | (apply retRD1 (G := (IdeAt x L + F)) (.inr rfl) rfl; (· first | (refine rv_tmp (v := .bool _) rfl) | exact rv_tmp rfl); (· exact Ent.auto)) | (apply retRD1 (G := (IdeAt x L + F)) (.inl rfl) rfl; (· first | (refine rv_tmp (v := .bool _) rfl) | exact rv_tmp rfl); (· exact Ent.auto)))
          exact ⟨Ent.refl _, by rw [Bool.false_and]⟩
        | true =>
          refine walk ?_
          (first | refine step_wanted rfl rfl ?_ | skip)
          refine s_callV (f := mayF k) (first := []) (cap := []) (vs := [ptr x, noteV n]) rfl rfl (may_any (x := x) (L := L) (n := n) ok hK hr hk hk1) rfl ?_
          rintro _ _ ⟨e_, rfl⟩
          obtain rfl := e_.symm
          refine walk ?_
          (first | (apply retRD1 (G := (IdeAt x L + F)) (.inr rfl) rfl; (· first | (refine rv_tmp (v := .bool _) rfl) | exact rv_tmp rfl); (· exact Ent.auto)) | (apply retRD1 (G := (IdeAt x L + F)) (.inl rfl) rfl; (· first | (refine rv_tmp (v := .bool _) rfl) | exact rv_tmp rfl); (· exact Ent.auto)))
          exact ⟨Ent.refl _, by rw [Bool.true_and]⟩
      · skip
        refine s_alloc rfl ?_
        intro b5
        refine wpl_nil (qone ⟨(by (refine st_again ?_ ?_; (· exact looked)); exact st_nil), ?_⟩)
        (skip)
        refine dw_do rfl rfl ?_ dw_stop
        refine s_call rfl (iKinds (L := L) (x := x)) rfl ?_
        rintro _ _ ⟨e_, rfl⟩
        obtain rfl := e_.symm
        refine wpl_nil (qone ⟨(by (refine st_again ?_ ?_; (· exact looked)); exact st_nil), ?_⟩)
        ((apply dw_pure; (· exact rfl); (· exact rfl); (· (intro G; refine s_indexVA (j := k) (cs := kindsC L.I.c) (vs := [str (fK n.kind), .int .i64 (xK L.I.c n.kind), .func (.func (mayF k)) #[] #[], .func (.func (doF k)) #[] #[]]) rfl rfl hk (by omega) hka rfl ?_; exact looked))); skip)
        refine dw_do0 rfl rfl ?_ dw_stop
        refine s_storeV (vs := [str (fK n.kind), .int .i64 (xK L.I.c n.kind), .func (.func (mayF k)) #[] #[], .func (.func (doF k)) #[] #[]]) rfl rfl rfl rfl rfl ?_
        refine wpl_nil (qone0 ⟨(by refine st_past (by kernel_rfl) ?_; exact st_nil), ?_⟩)
        (refine dw_nil ?_; skip)
        refine walk ?_
        refine s_call rfl (iRight (x := x) (L := L) (n := n) (f := fK n.kind) (xk := xK L.I.c n.kind) (fK_len _)) rfl ?_
        rintro _ _ ⟨e_, rfl⟩
        obtain rfl := e_.symm
        rw [show rightAt L.I.c (fK n.kind) (xK L.I.c n.kind) n 0 = rightB L.I.c n from rfl]
        cases hr : rightB L.I.c n with
        | false =>
          refine walk ?_
          (first | (apply retRD1 (G := (IdeAt x L + F)) (.inr rfl) rfl; (· first | (refine rv_tmp (v := .bool _) rfl) | exact rv_tmp rfl); (· exact Ent.auto)) | (apply retRD1 (G := (IdeAt x L + F)) (.inl rfl) rfl; (· first | (refine rv_tmp (v := .bool _) rfl) | exact rv_tmp rfl); (· exact Ent.auto)))
          exact ⟨Ent.refl _, by rw [Bool.false_and]⟩
        | true =>
          refine walk ?_
          (first | refine step_wanted rfl rfl ?_ | skip)
          refine s_callV (f := mayF k) (first := []) (cap := []) (vs := [ptr x, noteV n]) rfl rfl (may_any (x := x) (L := L) (n := n) ok hK hr hk hk1) rfl ?_
          rintro _ _ ⟨e_, rfl⟩
          obtain rfl := e_.symm
          refine walk ?_
          (first | (apply retRD1 (G := (IdeAt x L + F)) (.inr rfl) rfl; (· first | (refine rv_tmp (v := .bool _) rfl) | exact rv_tmp rfl); (· exact Ent.auto)) | (apply retRD1 (G := (IdeAt x L + F)) (.inl rfl) rfl; (· first | (refine rv_tmp (v := .bool _) rfl) | exact rv_tmp rfl); (· exact Ent.auto)))
          exact ⟨Ent.refl _, by rw [Bool.true_and]⟩
    · rw [decide_eq_false (show ¬ (1 ≤ n.kind ∧ n.kind ≤ 16) from fun h => h2 h.2), Bool.false_and]
      refine fn_intro 34 Tryz.func23 rfl rfl rfl ?_
      refine walk ?_
      refine s_box (cs := nv n) rfl rfl rfl ?_
      intro b
      refine walk ?_
      (first | (apply retRD1 (G := (IdeAt x L + F)) (.inr rfl) rfl; (· first | (refine rv_tmp (v := .bool _) rfl) | exact rv_tmp rfl); (· exact Ent.auto)) | (apply retRD1 (G := (IdeAt x L + F)) (.inl rfl) rfl; (· first | (refine rv_tmp (v := .bool _) rfl) | exact rv_tmp rfl); (· exact Ent.auto)))
      exact ⟨Ent.refl _, rfl⟩
  · rw [decide_eq_false (show ¬ (1 ≤ n.kind ∧ n.kind ≤ 16) from fun h => h1 h.1), Bool.false_and]
    refine fn_intro 34 Tryz.func23 rfl rfl rfl ?_
    refine walk ?_
    refine s_box (cs := nv n) rfl rfl rfl ?_
    intro b
    refine walk ?_
    (first | (apply retRD1 (G := (IdeAt x L + F)) (.inr rfl) rfl; (· first | (refine rv_tmp (v := .bool _) rfl) | exact rv_tmp rfl); (· exact Ent.auto)) | (apply retRD1 (G := (IdeAt x L + F)) (.inl rfl) rfl; (· first | (refine rv_tmp (v := .bool _) rfl) | exact rv_tmp rfl); (· exact Ent.auto)))
    exact ⟨Ent.refl _, rfl⟩
end
end Go.Proofs.YtlhnmbajbhaaoaaGreat
namespace Go.Proofs.YtlhnmbajbhaaoaaGreat
open Go Go.SL
set_option linter.unusedSimpArgs false
set_option linter.unusedVariables false
set_option maxRecDepth 10000
set_option maxHeartbeats 2000000
/-- Notes, as they lie in memory. -/
def nvs : List Nt → List Value
  | [] => []
  | n :: l => nv n ++ nvs l
theorem nvs_len (l : List Nt) : (nvs l).length = l.length * 5 := by
  induction l with
  | nil => rfl
  | cons a l ih => simp only [nvs, List.length_append, ih, List.length_cons, List.length_nil]; omega
theorem nvs_app (a b : List Nt) : nvs (a ++ b) = nvs a ++ nvs b := by
  induction a with
  | nil => rfl
  | cons r a ih => simp only [List.cons_append, nvs, ih, List.append_assoc]
theorem nvs_split {l : List Nt} {k : Nat} (h : k < l.length) : nvs l = nvs (l.take k) ++ (nv l[k] ++ nvs (l.drop (k + 1))) := by
  have e : l = l.take k ++ l[k] :: l.drop (k + 1) := by rw [← List.drop_eq_getElem_cons h, List.take_append_drop]
  conv => lhs; rw [e]
  rw [nvs_app]; rfl
theorem nvs_at {l : List Nt} {k j : Nat} (h : k < l.length) (hj : j < 5) : (nvs l)[k * 5 + j]? = (nv l[k])[j]? := by
  have hl : (nvs (l.take k)).length = k * 5 := by rw [nvs_len, List.length_take]; omega
  rw [nvs_split h, List.getElem?_append_right (by omega), hl, Nat.add_sub_cancel_left, List.getElem?_append_left (by simpa using hj)]
theorem nvs_take (l : List Nt) (k : Nat) (h : k ≤ l.length) : (nvs l).take (k * 5) = nvs (l.take k) := by
  have hl : (nvs (l.take k)).length = k * 5 := by rw [nvs_len, List.length_take]; omega
  conv => lhs; rw [← List.take_append_drop k l, nvs_app]
  rw [List.take_left' hl]
theorem takeI_cons (I : Ide) (n : Nt) (l : List Nt) : takeI I (n :: l) = if mayB I n = true then ((takeI (stepI I n) l).1 + 1, (takeI (stepI I n) l).2) else (0, I) := rfl
theorem nvs_cells {B : World} {H : HProp} {b o : Nat} {l : List Nt} (hc : Cells B H b o (nvs l)) {k : Nat} (hk : k < l.length) : Cells B H b (o + k * 5) (nv l[k]) := by
  intro w hw j v hj
  have hj5 : j < 5 := (List.getElem?_eq_some_iff.1 hj).1
  have h2 := hc.cell (j := k * 5 + j) (v := v) (by rw [nvs_at hk hj5]; exact hj)
  rw [← Nat.add_assoc] at h2
  exact h2 w hw
instance : Plain Tryz.prog 88 := Plain.of (by kernel_rfl) (by kernel_rfl)
instance : FieldV Tryz.prog 90 3 88 3 := ⟨by kernel_rfl⟩
attribute [local irreducible] WP WPL QSeq QBlk QRet Does Cell Cells Rd Mine Ent Aside RV Yield TabAt SemAt IdeAt
section
variable {B : World} {H F G : HProp} {x : Nat} {L : IdL} {n : Nt} {l : List Nt} {s : Value} {K : Int}
theorem iTake [i : HasAt IdeAt H x L F] (hs : Rd B F 5 s l.length (nvs l)) (ok : L.I.ok K) (hK : K + 3 * l.length ≤ 99000) :
    Does Tryz.prog B 13 [ptr x, s] H fun r H' => H' = IdeAt x (L.put (takeI L.I l).2) + F ∧ r = .tuple #[.int .i64 ((takeI L.I l).1 : Int), .int .i64 (if (takeI L.I l).1 = l.length then 0 else 260)] := by
  have h0 := ok.many
  unfold Rd at hs
  obtain ⟨ao, cap, rfl, hl, hm, hc⟩ := hs
  unfold maxLen at hm
  rw [i.eq]
  refine Does.same ?_
  refine fn_intro 41 Tryz.func13 rfl rfl rfl ?_
  refine walk ?_
  refine wp_loopF (α := Nat × Ide) [4, 5, 6, 7, 12, 13, 14, 15, 16, 17, 18, 19, 20, 21, 22, 23, 24, 25, 26, 27, 28, 29, 30, 31, 32, 33, 34, 35, 36, 37, 38] (fun z => [(12, .int .i64 (z.1 : Nat))]) (fun z => IdeAt x (L.put z.2) + F)
    (fun z => z.1 ≤ l.length ∧ z.2.ok (K + 3 * z.1) ∧ takeI L.I l = (z.1 + (takeI z.2 (l.drop z.1)).1, (takeI z.2 (l.drop z.1)).2)) (fun z => l.length - z.1) (0, L.I) agreed (Ent.refl _) ⟨Nat.zero_le _, by simpa using ok, by simp⟩ ?_
  rintro ⟨k, J⟩ f ⟨hk, okJ, htk⟩
  simp only at hk okJ htk
  simp only [putAll]
  by_cases hlt : k < l.length
  · obtain ⟨bs, os, rfl, hcs⟩ : ∃ b o, ao = some ⟨b, o, none⟩ ∧ Cells B F b o (nvs l) := by
      rcases hc with h | ⟨b, o, h1, h2⟩
      · rw [h] at hl; simp at hl; omega
      · exact ⟨b, o, h1, h2⟩
    have hcell := nvs_cells hcs hlt
    rw [List.drop_eq_getElem_cons hlt, takeI_cons] at htk
    obtain ⟨n, hn⟩ : ∃ n, l[k] = n := ⟨_, rfl⟩
    rw [hn] at htk hcell
    have okJ' : (L.put J).I.ok (K + 3 * k) := okJ
    have mb := okJ.many
    refine walk ?_
    refine s_alloc rfl ?_
    intro b7
    refine walk ?_
    refine s_storeV (vs := nv n) rfl rfl rfl rfl rfl ?_
    refine walk ?_
    refine s_call rfl (iMay (x := x) (L := L.put J) (n := n) okJ' (by omega)) rfl ?_
    rintro _ _ ⟨e_, rfl⟩
    obtain rfl := e_.symm
    rw [show mayB (L.put J).I n = mayB J n from rfl]
    cases hmay : mayB J n with
    | false =>
      rw [if_neg (by rw [hmay]; simp)] at htk
      have e1 : (takeI L.I l).1 = k := by rw [htk]; simp
      have e2 : (takeI L.I l).2 = J := by rw [htk]
      refine walk ?_
      (first | (apply retRD2 (G := (IdeAt x (L.put J) + F)) (.inr rfl) rfl; (· first | (refine rv_tmp (v := .int _ _) rfl) | exact rv_tmp rfl); (· first | (refine rv_tmp (v := .int _ _) rfl) | exact rv_tmp rfl); (· exact Ent.auto)) | (apply retRD2 (G := (IdeAt x (L.put J) + F)) (.inl rfl) rfl; (· first | (refine rv_tmp (v := .int _ _) rfl) | exact rv_tmp rfl); (· first | (refine rv_tmp (v := .int _ _) rfl) | exact rv_tmp rfl); (· exact Ent.auto)))
      exact ⟨by rw [e2]; exact Ent.refl _, by rw [e1, if_neg (by omega)]⟩
    | true =>
      rw [if_pos hmay] at htk
      obtain ⟨hk16, hr, hy⟩ := mayB_of hmay
      obtain ⟨kk, hkk⟩ := Int.eq_ofNat_of_zero_le (show 0 ≤ n.kind by omega)
      have hk1 : 1 ≤ kk ∧ kk ≤ 16 := by omega
      have hka := kind_at (c := J.c) hk1
      rw [← hkk] at hka
      have okS := okJ.step hmay
      have okS' : (stepI J n).ok (K + 3 * ((k + 1 : Nat) : Int)) := by
        have e : K + 3 * ((k + 1 : Nat) : Int) = K + 3 * (k : Int) + 3 := by omega
        rw [e]; exact okS
      have okD := okJ.doK hr hk16
      have md := okD.many
      haveI := do_call hk1
      have z10 : Cell B (IdeAt x (L.put (doK J n))) x 10 (.int .i64 (doK J n).many) := ide_cell rfl
      refine walk ?_
      (refine wp_draw [1, 8] (.look 0 (.look 2 (.look 3 (.look 6 (.look 7 (.act 1 (.look 4 (.look 5 (.act 8 .nil .stop))) .stop)))))) (by kernel_rfl) ?_; refine dwP ?_; refine dwP ?_; refine dwL ?_; refine dwP ?_; refine dwL ?_; skip)
      refine dw_do rfl rfl ?_ dw_stop
      refine s_call rfl (iKinds (L := L.put J) (x := x)) rfl ?_
      rintro _ _ ⟨e_, rfl⟩
      obtain rfl := e_.symm
      refine wpl_nil (qone ⟨(by (refine st_again ?_ ?_; (· exact looked)); (refine st_again ?_ ?_; (· exact looked)); exact st_nil), ?_⟩)
      ((apply dw_pure; (· exact rfl); (· exact rfl); (· (intro G; refine s_indexVA (j := kk) (cs := kindsC J.c) (vs := [str (fK n.kind), .int .i64 (xK J.c n.kind), .func (.func (mayF kk)) #[] #[], .func (.func (doF kk)) #[] #[]]) rfl rfl hkk (by omega) hka rfl ?_; exact looked))); (apply dw_pure; (· exact rfl); (· exact rfl); (· (intro G; refine s_fieldV (cs := [str (fK n.kind), .int .i64 (xK J.c n.kind), .func (.func (mayF kk)) #[] #[], .func (.func (doF kk)) #[] #[]]) rfl rfl rfl ?_; exact looked))); skip)
      refine dw_do rfl rfl ?_ dw_stop
      refine s_callV (f := doF kk) (first := []) (cap := []) (vs := [ptr x, noteV n]) rfl rfl (do_any (x := x) (L := L.put J) (n := n) okJ' (by omega) hr hy hkk hk1) rfl ?_
      rintro _ _ ⟨rfl, rfl⟩
      rw [show (L.put J).put (doK (L.put J).I n) = L.put (doK J n) from rfl]
      refine wpl_nil (qone ⟨(by refine st_past (by kernel_rfl) ?_; refine st_past (by kernel_rfl) ?_; exact st_nil), ?_⟩)
      (refine dw_nil ?_; skip)
      refine walk ?_
      rw [ide_openP]
      refine s_store (v := .int .i64 ((doK J n).many + 1)) (cs' := ideJ L (stepI J n)) rfl rfl rfl (by simp) rfl ?_
      refine walk ?_
      refine ⟨(k + 1, stepI J n), asided, agreed, ?_, ⟨by omega, okS', by rw [htk]; simp only [Prod.mk.injEq, and_true]; omega⟩, by simp only; omega⟩
      rw [ide_openP]
      show Ent _ (blk x (ideJ L (stepI J n)) 75 + (blk L.bm (mcs (doK J n).ms ++ L.sm) 80 + (blk L.bp (zs (doK J n).ps ++ L.sp) 3 + (TabAt L.q (doK J n).tab + (SemAt L.s (doK J n).sem + F)))))
      exact Ent.auto
  · have hkl : k = l.length := by omega
    rw [hkl, List.drop_length] at htk
    have e1 : (takeI L.I l).1 = l.length := by rw [htk]; simp [takeI]
    have e2 : (takeI L.I l).2 = J := by rw [htk]; rfl
    refine walk ?_
    (first | (apply retRD2 (G := (IdeAt x (L.put J) + F)) (.inr rfl) rfl; (· first | (refine rv_tmp (v := .int _ _) rfl) | exact rv_tmp rfl); (· first | (refine rv_tmp (v := .int _ _) rfl) | exact rv_tmp rfl); (· exact Ent.auto)) | (apply retRD2 (G := (IdeAt x (L.put J) + F)) (.inl rfl) rfl; (· first | (refine rv_tmp (v := .int _ _) rfl) | exact rv_tmp rfl); (· first | (refine rv_tmp (v := .int _ _) rfl) | exact rv_tmp rfl); (· exact Ent.auto)))
    exact ⟨by rw [e2]; exact Ent.refl _, by rw [e1, if_pos rfl]⟩
end
end Go.Proofs.YtlhnmbajbhaaoaaGreat
namespace Go.Proofs.YtlhnmbajbhaaoaaGreat
open Go Go.SL
set_option linter.unusedSimpArgs false
set_option linter.unusedVariables false
set_option maxRecDepth 10000
set_option maxHeartbeats 2000000
def restM : Mc := ⟨0, -1, -1, 0⟩
def zeroM : Mc := ⟨0, 0, 0, 0⟩
def newI0 (c : Cfg) : Ide := { c := c, tab := (Tab.new c.g.toNat).make.2.2, sem := newS 4 c.s, ms := List.replicate c.m.toNat restM, ps := List.replicate c.n.toNat (-1), many := 0 }
/-- The system of a config at first. -/
def newI (c : Cfg) : Ide := (newI0 c).has 0 0 1 (-1)
theorem zeros_mcs (m : Nat) : (List.replicate m [Value.int .i64 0, Value.int .i64 0, Value.int .i64 0, Value.int .i64 0]).flatten = mcs (List.replicate m zeroM) := by
  induction m with
  | zero => rfl
  | succ m ih => simp only [List.replicate_succ, List.flatten_cons, mcs, mcC, zeroM] at ih ⊢; rw [ih]
theorem zeros_zs (m : Nat) : (List.replicate m [Value.int .i64 0]).flatten = zs (List.replicate m 0) := by
  induction m with
  | zero => rfl
  | succ m ih => simp only [List.replicate_succ, List.flatten_cons, zs, List.map_cons] at ih ⊢; rw [ih]; rfl
theorem rep_step {α : Type} {a z : α} {m k : Nat} (h : k < m) : (List.replicate k a ++ List.replicate (m - k) z).set k a = List.replicate (k + 1) a ++ List.replicate (m - (k + 1)) z := by
  have e : m - k = (m - (k + 1)) + 1 := by omega
  rw [e, List.replicate_succ, List.set_append_right _ _ (by simp), List.length_replicate, Nat.sub_self, List.set_cons_zero, List.replicate_succ', List.append_assoc]
  rfl
theorem rep_mod {m k : Nat} (h : k < m) : (List.replicate k restM ++ List.replicate (m - k) zeroM).modify k (fun x => { x with a := 0, p := -1, g := -1 }) = List.replicate (k + 1) restM ++ List.replicate (m - (k + 1)) zeroM := by
  have hl : k < (List.replicate k restM ++ List.replicate (m - k) zeroM).length := by simp; omega
  rw [modify_at (a := zeroM) (by rw [List.getElem?_append_right (by simp), List.length_replicate, Nat.sub_self, List.getElem?_replicate, if_pos (by omega)])]
  exact rep_step h
theorem new_ok {c : Cfg} (hc : RightP c) : (newI c).ok 1 := by
  obtain ⟨r, c1, c2, c3, c4, c5, c6, c7, c8, c9, c10⟩ := hc
  have h0 : (newI0 c).ok 1 := by
    refine ⟨⟨r, c1, c2, c3, c4, c5, c6, c7, c8, c9, c10⟩, ?_, ?_, ?_, ?_, ?_, rfl, ?_, ?_⟩
    · show ((List.replicate c.m.toNat restM).length : Int) = c.m
      rw [List.length_replicate]; omega
    · show ((List.replicate c.n.toNat (-1 : Int)).length : Int) = c.n
      rw [List.length_replicate]; omega
    · intro q hq
      have := List.eq_of_mem_replicate hq
      show q < c.m
      omega
    · exact (Tab.ok.new (m := c.g.toNat) (by omega)).make
    · show ((Tab.new c.g.toNat).make.2.2.all.length : Int) = c.g
      rw [Tab.make_len]
      simp [Tab.new]; omega
    · intro i l x h
      have hm := List.mem_of_getElem? h
      have := List.eq_of_mem_replicate hm
      have e : l = [] := congrArg (·.1) this
      rw [e]; simp
    · show 0 ≤ (0 : Int) ∧ (0 : Int) ≤ 1; omega
  exact h0.has (by show (0 : Int) < c.m; omega)
attribute [local irreducible] WP WPL QSeq QBlk QRet Does Cell Cells Rd Mine Ent Aside RV Yield TabAt SemAt
section
variable {B : World} {H F G : HProp} {x : Nat} {c : Cfg}
theorem iNew_no (h : ¬ RightP c) : Does Tryz.prog B 8 [cfgV c] H fun r H' => H' = H ∧ r = .pointer none := by
  refine Does.frame0 ?_
  refine fn_intro 70 Tryz.func8 rfl rfl rfl ?_
  refine walk ?_
  refine s_box (cs := cv c) rfl rfl rfl ?_
  intro b
  refine walk ?_
  refine s_call rfl (cRight (c := c)) rfl ?_
  rintro _ _ ⟨e_, rfl⟩
  obtain rfl := e_.symm
  refine walk ?_
  rw [decide_eq_false h]
  refine walk ?_
  (first | (apply retRD1 (G := H) (.inr rfl) rfl; (· first | (refine rv_tmp (v := .pointer _) rfl) | exact rv_tmp rfl); (· exact Ent.auto)) | (apply retRD1 (G := H) (.inl rfl) rfl; (· first | (refine rv_tmp (v := .pointer _) rfl) | exact rv_tmp rfl); (· exact Ent.auto)))
  exact ⟨Ent.refl _, rfl⟩
theorem iNew (h : RightP c) : Does Tryz.prog B 8 [cfgV c] H fun r H' => ∃ x L, L.I = newI c ∧ H' = IdeAt x L + H ∧ r = ptr x := by
  have hr := h
  obtain ⟨_, c1, c2, c3, c4, c5, c6, _, _, c9, c10⟩ := h
  obtain ⟨m, hm⟩ := Int.eq_ofNat_of_zero_le (show 0 ≤ c.m by omega)
  obtain ⟨n, hn⟩ := Int.eq_ofNat_of_zero_le (show 0 ≤ c.n by omega)
  obtain ⟨g, hg⟩ := Int.eq_ofNat_of_zero_le (show 0 ≤ c.g by omega)
  have okT : (Tab.new g).ok 0 := Tab.ok.new (by omega)
  refine fn_intro 70 Tryz.func8 rfl rfl rfl ?_
  refine walk ?_
  refine s_box (cs := cv c) rfl rfl rfl ?_
  intro b
  refine walk ?_
  refine s_call rfl (cRight (c := c)) rfl ?_
  rintro _ _ ⟨e_, rfl⟩
  obtain rfl := e_.symm
  refine walk ?_
  rw [decide_eq_true hr]
  refine walk ?_
  refine wp_cut_here (α := Nat × Nat × Nat × Nat) [3, 9, 10, 11, 12, 13, 14, 15, 16, 17, 18, 19, 20] (fun z => [(3, ptr z.1)])
    (fun z => blk z.1 [.int .i64 c.n, .int .i64 c.q, .int .i64 c.g, .int .i64 c.m, .int .i64 c.t, .int .i64 c.s, ptr z.2.1, .pointer none, .slice (some ⟨z.2.2.1, 0, none⟩) m m, .slice (some ⟨z.2.2.2, 0, none⟩) n n, .int .i64 0] 75 + (blk z.2.2.1 (mcs (List.replicate m zeroM)) 80 + (blk z.2.2.2 (zs (List.replicate n 0)) 3 + (TabAt z.2.1 (Tab.new g) + (blk b (cv c) 23 + H))))) (fun _ => True) ?_ ?_
  · skip
    (refine wp_draw [3, 6, 9, 11] (.look 0 (.look 1 (.look 2 (.look 4 (.look 5 (.look 7 (.look 8 (.act 3 (.act 6 (.act 9 (.look 10 (.act 11 (.look 12 .nil) .stop)) .stop) (.act 9 (.act 6 (.look 10 (.act 11 (.look 12 .nil) .stop)) .stop) .stop)) (.act 6 (.act 3 (.act 9 (.look 10 (.act 11 (.look 12 .nil) .stop)) .stop) (.act 9 (.act 3 (.look 10 (.act 11 (.look 12 .nil) .stop)) .stop) .stop)) (.act 9 (.act 3 (.act 6 (.look 10 (.act 11 (.look 12 .nil) .stop)) .stop) (.act 6 (.act 3 (.look 10 (.act 11 (.look 12 .nil) .stop)) .stop) .stop)) .stop)))))))))) (by kernel_rfl) ?_; refine dwL ?_; refine dwP ?_; refine dwL ?_; refine dwP ?_; refine dwL ?_; refine dwP ?_; refine dwL ?_; skip)
    refine dw_do rfl rfl ?_ (dw_do rfl rfl ?_ (dw_do rfl rfl ?_ dw_stop))
    · skip
      refine s_call rfl (tNew (n := c.g) (m := g) (by omega)) rfl ?_
      rintro _ _ ⟨q, rfl, rfl⟩
      refine wpl_nil (qone ⟨(by (refine st_again ?_ ?_; (· exact looked)); (refine st_again ?_ ?_; (· exact looked)); refine st_past (by kernel_rfl) ?_; (refine st_again ?_ ?_; (· exact looked)); exact st_nil), ?_⟩)
      (skip)
      refine dw_do rfl rfl ?_ (dw_do rfl rfl ?_ dw_stop)
      · skip
        refine s_makeSlice (k := m) (c := m) (by rw [← hm]; rfl) (by rw [← hm]; rfl) (Nat.le_refl _) ?_ rfl ?_
        · simp only [maxLen]; omega
        intro bm
        rw [zeros_mcs]
        refine wpl_nil (qone ⟨(by (refine st_again ?_ ?_; (· exact looked)); refine st_past (by kernel_rfl) ?_; (refine st_again ?_ ?_; (· exact looked)); (refine st_again ?_ ?_; (· exact looked)); exact st_nil), ?_⟩)
        (skip)
        refine dw_do rfl rfl ?_ dw_stop
        refine s_makeSlice (k := n) (c := n) (by rw [← hn]; rfl) (by rw [← hn]; rfl) (Nat.le_refl _) ?_ rfl ?_
        · simp only [maxLen]; omega
        intro bp
        rw [zeros_zs]
        refine wpl_nil (qone ⟨(by refine st_past (by kernel_rfl) ?_; (refine st_again ?_ ?_; (· exact looked)); (refine st_again ?_ ?_; (· exact looked)); (refine st_again ?_ ?_; (· exact looked)); exact st_nil), ?_⟩)
        ((apply dw_pure; (· exact rfl); (· exact rfl); (· (intro G; (refine s_build (cs := [.int .i64 c.n, .int .i64 c.q, .int .i64 c.g, .int .i64 c.m, .int .i64 c.t, .int .i64 c.s, ptr q, .pointer none, .slice (some ⟨bm, 0, none⟩) m m, .slice (some ⟨bp, 0, none⟩) n n, .int .i64 0]) ?_ rfl ?_; (· kernel_rfl)); exact looked))); skip)
        refine dw_do rfl rfl ?_ dw_stop
        refine s_box (cs := [.int .i64 c.n, .int .i64 c.q, .int .i64 c.g, .int .i64 c.m, .int .i64 c.t, .int .i64 c.s, ptr q, .pointer none, .slice (some ⟨bm, 0, none⟩) m m, .slice (some ⟨bp, 0, none⟩) n n, .int .i64 0]) rfl rfl rfl ?_
        intro x
        refine wpl_nil (qone ⟨(by refine st_past (by kernel_rfl) ?_; refine st_past (by kernel_rfl) ?_; refine st_past (by kernel_rfl) ?_; refine st_past (by kernel_rfl) ?_; exact st_nil), ?_⟩)
        (refine dwP ?_; refine dw_nil ?_; skip)
        refine walk ?_
        exact ⟨(x, q, bm, bp), asided, agreed, Ent.auto, trivial⟩
      · skip
        refine s_makeSlice (k := n) (c := n) (by rw [← hn]; rfl) (by rw [← hn]; rfl) (Nat.le_refl _) ?_ rfl ?_
        · simp only [maxLen]; omega
        intro bp
        rw [zeros_zs]
        refine wpl_nil (qone ⟨(by refine st_past (by kernel_rfl) ?_; (refine st_again ?_ ?_; (· exact looked)); (refine st_again ?_ ?_; (· exact looked)); (refine st_again ?_ ?_; (· exact looked)); exact st_nil), ?_⟩)
        (skip)
        refine dw_do rfl rfl ?_ dw_stop
        refine s_makeSlice (k := m) (c := m) (by rw [← hm]; rfl) (by rw [← hm]; rfl) (Nat.le_refl _) ?_ rfl ?_
        · simp only [maxLen]; omega
        intro bm
        rw [zeros_mcs]
        refine wpl_nil (qone ⟨(by (refine st_again ?_ ?_; (· exact looked)); refine st_past (by kernel_rfl) ?_; (refine st_again ?_ ?_; (· exact looked)); (refine st_again ?_ ?_; (· exact looked)); exact st_nil), ?_⟩)
        ((apply dw_pure; (· exact rfl); (· exact rfl); (· (intro G; (refine s_build (cs := [.int .i64 c.n, .int .i64 c.q, .int .i64 c.g, .int .i64 c.m, .int .i64 c.t, .int .i64 c.s, ptr q, .pointer none, .slice (some ⟨bm, 0, none⟩) m m, .slice (some ⟨bp, 0, none⟩) n n, .int .i64 0]) ?_ rfl ?_; (· kernel_rfl)); exact looked))); skip)
        refine dw_do rfl rfl ?_ dw_stop
        refine s_box (cs := [.int .i64 c.n, .int .i64 c.q, .int .i64 c.g, .int .i64 c.m, .int .i64 c.t, .int .i64 c.s, ptr q, .pointer none, .slice (some ⟨bm, 0, none⟩) m m, .slice (some ⟨bp, 0, none⟩) n n, .int .i64 0]) rfl rfl rfl ?_
        intro x
        refine wpl_nil (qone ⟨(by refine st_past (by kernel_rfl) ?_; refine st_past (by kernel_rfl) ?_; refine st_past (by kernel_rfl) ?_; refine st_past (by kernel_rfl) ?_; exact st_nil), ?_⟩)
        (refine dwP ?_; refine dw_nil ?_; skip)
        refine walk ?_
        exact ⟨(x, q, bm, bp), asided, agreed, Ent.auto, trivial⟩
    · skip
      refine s_makeSlice (k := m) (c := m) (by rw [← hm]; rfl) (by rw [← hm]; rfl) (Nat.le_refl _) ?_ rfl ?_
      · simp only [maxLen]; omega
      intro bm
      rw [zeros_mcs]
      refine wpl_nil (qone ⟨(by (refine st_again ?_ ?_; (· exact looked)); refine st_past (by kernel_rfl) ?_; (refine st_again ?_ ?_; (· exact looked)); (refine st_again ?_ ?_; (· exact looked)); exact st_nil), ?_⟩)
      (skip)
      refine dw_do rfl rfl ?_ (dw_do rfl rfl ?_ dw_stop)
      · skip
        refine s_call rfl (tNew (n := c.g) (m := g) (by omega)) rfl ?_
        rintro _ _ ⟨q, rfl, rfl⟩
        refine wpl_nil (qone ⟨(by (refine st_again ?_ ?_; (· exact looked)); (refine st_again ?_ ?_; (· exact looked)); refine st_past (by kernel_rfl) ?_; (refine st_again ?_ ?_; (· exact looked)); exact st_nil), ?_⟩)
        (skip)
        refine dw_do rfl rfl ?_ dw_stop
        refine s_makeSlice (k := n) (c := n) (by rw [← hn]; rfl) (by rw [← hn]; rfl) (Nat.le_refl _) ?_ rfl ?_
        · simp only [maxLen]; omega
        intro bp
        rw [zeros_zs]
        refine wpl_nil (qone ⟨(by refine st_past (by kernel_rfl) ?_; (refine st_again ?_ ?_; (· exact looked)); (refine st_again ?_ ?_; (· exact looked)); (refine st_again ?_ ?_; (· exact looked)); exact st_nil), ?_⟩)
        ((apply dw_pure; (· exact rfl); (· exact rfl); (· (intro G; (refine s_build (cs := [.int .i64 c.n, .int .i64 c.q, .int .i64 c.g, .int .i64 c.m, .int .i64 c.t, .int .i64 c.s, ptr q, .pointer none, .slice (some ⟨bm, 0, none⟩) m m, .slice (some ⟨bp, 0, none⟩) n n, .int .i64 0]) ?_ rfl ?_; (· kernel_rfl)); exact looked))); skip)
        refine dw_do rfl rfl ?_ dw_stop
        refine s_box (cs := [.int .i64 c.n, .int .i64 c.q, .int .i64 c.g, .int .i64 c.m, .int .i64 c.t, .int .i64 c.s, ptr q, .pointer none, .slice (some ⟨bm, 0, none⟩) m m, .slice (some ⟨bp, 0, none⟩) n n, .int .i64 0]) rfl rfl rfl ?_
        intro x
        refine wpl_nil (qone ⟨(by refine st_past (by kernel_rfl) ?_; refine st_past (by kernel_rfl) ?_; refine st_past (by kernel_rfl) ?_; refine st_past (by kernel_rfl) ?_; exact st_nil), ?_⟩)
        (refine dwP ?_; refine dw_nil ?_; skip)
        refine walk ?_
        exact ⟨(x, q, bm, bp), asided, agreed, Ent.auto, trivial⟩
      · skip
        refine s_makeSlice (k := n) (c := n) (by rw [← hn]; rfl) (by rw [← hn]; rfl) (Nat.le_refl _) ?_ rfl ?_
        · simp only [maxLen]; omega
        intro bp
        rw [zeros_zs]
        refine wpl_nil (qone ⟨(by refine st_past (by kernel_rfl) ?_; (refine st_again ?_ ?_; (· exact looked)); (refine st_again ?_ ?_; (· exact looked)); (refine st_again ?_ ?_; (· exact looked)); exact st_nil), ?_⟩)
        (skip)
        refine dw_do rfl rfl ?_ dw_stop
        refine s_call rfl (tNew (n := c.g) (m := g) (by omega)) rfl ?_
        rintro _ _ ⟨q, rfl, rfl⟩
        refine wpl_nil (qone ⟨(by (refine st_again ?_ ?_; (· exact looked)); (refine st_again ?_ ?_; (· exact looked)); refine st_past (by kernel_rfl) ?_; (refine st_again ?_ ?_; (· exact looked)); exact st_nil), ?_⟩)
        ((apply dw_pure; (· exact rfl); (· exact rfl); (· (intro G; (refine s_build (cs := [.int .i64 c.n, .int .i64 c.q, .int .i64 c.g, .int .i64 c.m, .int .i64 c.t, .int .i64 c.s, ptr q, .pointer none, .slice (some ⟨bm, 0, none⟩) m m, .slice (some ⟨bp, 0, none⟩) n n, .int .i64 0]) ?_ rfl ?_; (· kernel_rfl)); exact looked))); skip)
        refine dw_do rfl rfl ?_ dw_stop
        refine s_box (cs := [.int .i64 c.n, .int .i64 c.q, .int .i64 c.g, .int .i64 c.m, .int .i64 c.t, .int .i64 c.s, ptr q, .pointer none, .slice (some ⟨bm, 0, none⟩) m m, .slice (some ⟨bp, 0, none⟩) n n, .int .i64 0]) rfl rfl rfl ?_
        intro x
        refine wpl_nil (qone ⟨(by refine st_past (by kernel_rfl) ?_; refine st_past (by kernel_rfl) ?_; refine st_past (by kernel_rfl) ?_; refine st_past (by kernel_rfl) ?_; exact st_nil), ?_⟩)
        (refine dwP ?_; refine dw_nil ?_; skip)
        refine walk ?_
        exact ⟨(x, q, bm, bp), asided, agreed, Ent.auto, trivial⟩
    · skip
      refine s_makeSlice (k := n) (c := n) (by rw [← hn]; rfl) (by rw [← hn]; rfl) (Nat.le_refl _) ?_ rfl ?_
      · simp only [maxLen]; omega
      intro bp
      rw [zeros_zs]
      refine wpl_nil (qone ⟨(by refine st_past (by kernel_rfl) ?_; (refine st_again ?_ ?_; (· exact looked)); (refine st_again ?_ ?_; (· exact looked)); (refine st_again ?_ ?_; (· exact looked)); exact st_nil), ?_⟩)
      (skip)
      refine dw_do rfl rfl ?_ (dw_do rfl rfl ?_ dw_stop)
      · skip
        refine s_call rfl (tNew (n := c.g) (m := g) (by omega)) rfl ?_
        rintro _ _ ⟨q, rfl, rfl⟩
        refine wpl_nil (qone ⟨(by (refine st_again ?_ ?_; (· exact looked)); (refine st_again ?_ ?_; (· exact looked)); refine st_past (by kernel_rfl) ?_; (refine st_again ?_ ?_; (· exact looked)); exact st_nil), ?_⟩)
        (skip)
        refine dw_do rfl rfl ?_ dw_stop
        refine s_makeSlice (k := m) (c := m) (by rw [← hm]; rfl) (by rw [← hm]; rfl) (Nat.le_refl _) ?_ rfl ?_
        · simp only [maxLen]; omega
        intro bm
        rw [zeros_mcs]
        refine wpl_nil (qone ⟨(by (refine st_again ?_ ?_; (· exact looked)); refine st_past (by kernel_rfl) ?_; (refine st_again ?_ ?_; (· exact looked)); (refine st_again ?_ ?_; (· exact looked)); exact st_nil), ?_⟩)
        ((apply dw_pure; (· exact rfl); (· exact rfl); (· (intro G; (refine s_build (cs := [.int .i64 c.n, .int .i64 c.q, .int .i64 c.g, .int .i64 c.m, .int .i64 c.t, .int .i64 c.s, ptr q, .pointer none, .slice (some ⟨bm, 0, none⟩) m m, .slice (some ⟨bp, 0, none⟩) n n, .int .i64 0]) ?_ rfl ?_; (· kernel_rfl)); exact looked))); skip)
        refine dw_do rfl rfl ?_ dw_stop
        refine s_box (cs := [.int .i64 c.n, .int .i64 c.q, .int .i64 c.g, .int .i64 c.m, .int .i64 c.t, .int .i64 c.s, ptr q, .pointer none, .slice (some ⟨bm, 0, none⟩) m m, .slice (some ⟨bp, 0, none⟩) n n, .int .i64 0]) rfl rfl rfl ?_
        intro x
        refine wpl_nil (qone ⟨(by refine st_past (by kernel_rfl) ?_; refine st_past (by kernel_rfl) ?_; refine st_past (by kernel_rfl) ?_; refine st_past (by kernel_rfl) ?_; exact st_nil), ?_⟩)
        (refine dwP ?_; refine dw_nil ?_; skip)
        refine walk ?_
        exact ⟨(x, q, bm, bp), asided, agreed, Ent.auto, trivial⟩
      · skip
        refine s_makeSlice (k := m) (c := m) (by rw [← hm]; rfl) (by rw [← hm]; rfl) (Nat.le_refl _) ?_ rfl ?_
        · simp only [maxLen]; omega
        intro bm
        rw [zeros_mcs]
        refine wpl_nil (qone ⟨(by (refine st_again ?_ ?_; (· exact looked)); refine st_past (by kernel_rfl) ?_; (refine st_again ?_ ?_; (· exact looked)); (refine st_again ?_ ?_; (· exact looked)); exact st_nil), ?_⟩)
        (skip)
        refine dw_do rfl rfl ?_ dw_stop
        refine s_call rfl (tNew (n := c.g) (m := g) (by omega)) rfl ?_
        rintro _ _ ⟨q, rfl, rfl⟩
        refine wpl_nil (qone ⟨(by (refine st_again ?_ ?_; (· exact looked)); (refine st_again ?_ ?_; (· exact looked)); refine st_past (by kernel_rfl) ?_; (refine st_again ?_ ?_; (· exact looked)); exact st_nil), ?_⟩)
        ((apply dw_pure; (· exact rfl); (· exact rfl); (· (intro G; (refine s_build (cs := [.int .i64 c.n, .int .i64 c.q, .int .i64 c.g, .int .i64 c.m, .int .i64 c.t, .int .i64 c.s, ptr q, .pointer none, .slice (some ⟨bm, 0, none⟩) m m, .slice (some ⟨bp, 0, none⟩) n n, .int .i64 0]) ?_ rfl ?_; (· kernel_rfl)); exact looked))); skip)
        refine dw_do rfl rfl ?_ dw_stop
        refine s_box (cs := [.int .i64 c.n, .int .i64 c.q, .int .i64 c.g, .int .i64 c.m, .int .i64 c.t, .int .i64 c.s, ptr q, .pointer none, .slice (some ⟨bm, 0, none⟩) m m, .slice (some ⟨bp, 0, none⟩) n n, .int .i64 0]) rfl rfl rfl ?_
        intro x
        refine wpl_nil (qone ⟨(by refine st_past (by kernel_rfl) ?_; refine st_past (by kernel_rfl) ?_; refine st_past (by kernel_rfl) ?_; refine st_past (by kernel_rfl) ?_; exact st_nil), ?_⟩)
        (refine dwP ?_; refine dw_nil ?_; skip)
        refine walk ?_
        exact ⟨(x, q, bm, bp), asided, agreed, Ent.auto, trivial⟩
  rintro ⟨x, q, bm, bp⟩ f1 _
  simp only [putAll]
  refine walk ?_
  refine s_call rfl (sNew (n := 4) (c := c.s) (by omega) (by omega) (by omega)) rfl ?_
  rintro _ _ ⟨s, rfl, rfl⟩
  refine walk ?_
  refine s_store (v := ptr s) (cs' := [.int .i64 c.n, .int .i64 c.q, .int .i64 c.g, .int .i64 c.m, .int .i64 c.t, .int .i64 c.s, ptr q, ptr s, .slice (some ⟨bm, 0, none⟩) m m, .slice (some ⟨bp, 0, none⟩) n n, .int .i64 0]) rfl rfl rfl (by simp) rfl ?_
  refine walk ?_
  refine s_call rfl (tMake (p := q) (T := Tab.new g) okT (by omega)) rfl ?_
  rintro _ _ ⟨e_, rfl⟩
  obtain rfl := e_.symm
  refine walk ?_
  refine wp_loopF (α := Nat) [4, 40, 41, 42, 43, 44, 45, 46, 47, 48, 49, 50, 51] (fun k => [(40, .int .i64 k)])
    (fun k => blk bm (mcs (List.replicate k restM ++ List.replicate (m - k) zeroM)) 80 + (blk x [.int .i64 c.n, .int .i64 c.q, .int .i64 c.g, .int .i64 c.m, .int .i64 c.t, .int .i64 c.s, ptr q, ptr s, .slice (some ⟨bm, 0, none⟩) m m, .slice (some ⟨bp, 0, none⟩) n n, .int .i64 0] 75 + (blk bp (zs (List.replicate n 0)) 3 + (TabAt q (Tab.new g).make.2.2 + (SemAt s (newS 4 c.s) + (blk b (cv c) 23 + H)))))) (fun k => k ≤ m) (fun k => m - k) 0 agreed ?_ (Nat.zero_le _) ?_
  · simp only [List.replicate_zero, List.nil_append, Nat.sub_zero]
    exact Ent.auto
  intro k f2 hk
  simp only [putAll]
  by_cases hlt : k < m
  · have hlen : (List.replicate k restM ++ List.replicate (m - k) zeroM).length = m := by simp; omega
    have hml : (mcs (List.replicate k restM ++ List.replicate (m - k) zeroM)).length = m * 4 := by rw [mcs_len, hlen]
    refine walk ?_
    (refine s_build (cs := [.int .i64 0, .int .i64 (-1), .int .i64 (-1)]) ?_ rfl ?_; (· kernel_rfl))
    refine walk ?_
    refine s_storeA (vs := [.int .i64 0, .int .i64 (-1), .int .i64 (-1)]) (cs' := mcs (List.replicate (k + 1) restM ++ List.replicate (m - (k + 1)) zeroM)) rfl rfl rfl rfl ?_ ?_ ?_
    · simp only [List.length_cons, List.length_nil]; omega
    · have h3 := mcs_set3 (l := List.replicate k restM ++ List.replicate (m - k) zeroM) (k := k) (by omega) [] 0 (-1) (-1)
      rw [rep_mod hlt] at h3
      simp only [List.append_nil] at h3
      simp only [Nat.zero_add, Nat.add_zero]
      exact h3
    refine walk ?_
    exact ⟨k + 1, asided, agreed, Ent.auto, by omega, by omega⟩
  · have hkm : k = m := by omega
    subst hkm
    refine walk ?_
    refine wp_loopF (α := Nat) [5, 57, 58, 59, 60, 61, 62, 63, 64, 65, 66] (fun j => [(57, .int .i64 j)])
      (fun j => blk bp (zs (List.replicate j (-1) ++ List.replicate (n - j) 0)) 3 + (blk bm (mcs (List.replicate k restM ++ List.replicate (k - k) zeroM)) 80 + (blk x [.int .i64 c.n, .int .i64 c.q, .int .i64 c.g, .int .i64 c.m, .int .i64 c.t, .int .i64 c.s, ptr q, ptr s, .slice (some ⟨bm, 0, none⟩) k k, .slice (some ⟨bp, 0, none⟩) n n, .int .i64 0] 75 + (TabAt q (Tab.new g).make.2.2 + (SemAt s (newS 4 c.s) + (blk b (cv c) 23 + H)))))) (fun j => j ≤ n) (fun j => n - j) 0 agreed ?_ (Nat.zero_le _) ?_
    · simp only [List.replicate_zero, List.nil_append, Nat.sub_zero]
      exact Ent.auto
    intro j f3 hj
    simp only [putAll]
    by_cases hlt2 : j < n
    · have hlen : (zs (List.replicate j (-1) ++ List.replicate (n - j) 0)).length = n := by rw [zs_length]; simp; omega
      refine walk ?_
      refine s_store (v := .int .i64 (-1)) (cs' := zs (List.replicate (j + 1) (-1) ++ List.replicate (n - (j + 1)) 0)) rfl rfl rfl ?_ ?_ ?_
      · omega
      · rw [← rep_step hlt2]
        simp [zs, List.map_set]
      refine walk ?_
      exact ⟨j + 1, asided, agreed, Ent.auto, by omega, by omega⟩
    · have hjn : j = n := by omega
      subst hjn
      have em : c.m.toNat = k := by omega
      have en : c.n.toNat = j := by omega
      have eg : c.g.toNat = g := by omega
      refine WP.ent (show Ent _ (IdeAt x ⟨newI0 c, q, s, bm, k, [], bp, j, []⟩ + (blk b (cv c) 23 + H)) from ?_) ?_
      · rw [ide_open]
        simp only [ideC, newI0, em, en, eg, List.length_replicate, Nat.sub_self, List.replicate_zero, List.append_nil]
        exact Ent.auto
      have hm0 : 0 ≤ (0 : Int) ∧ (0 : Int) < ((newI0 c).ms.length : Int) := by
        show 0 ≤ (0 : Int) ∧ (0 : Int) < ((List.replicate c.m.toNat restM).length : Int)
        rw [List.length_replicate]; omega
      have hp0 : 0 ≤ (0 : Int) ∧ (0 : Int) < ((newI0 c).ps.length : Int) := by
        show 0 ≤ (0 : Int) ∧ (0 : Int) < ((List.replicate c.n.toNat (-1 : Int)).length : Int)
        rw [List.length_replicate]; omega
      refine walk ?_
      refine s_call rfl (iHas (x := x) (L := ⟨newI0 c, q, s, bm, k, [], bp, j, []⟩) (m := 0) (p := 0) (a := 1) (g := -1) hm0 hp0) rfl ?_
      rintro _ _ ⟨rfl, rfl⟩
      refine walk ?_
      exact QRet.ent (G := IdeAt x (IdL.put ⟨newI0 c, q, s, bm, k, [], bp, j, []⟩ ((newI0 c).has 0 0 1 (-1))) + H) Ent.auto (ret1 (v := ptr x) (.inr rfl) rfl rfl ⟨x, _, rfl, rfl, rfl⟩)
end
end Go.Proofs.YtlhnmbajbhaaoaaGreat
