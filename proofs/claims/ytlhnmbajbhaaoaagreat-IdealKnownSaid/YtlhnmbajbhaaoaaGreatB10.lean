/- The reference: what a note does to those that wait. The reference: Do, and Take. The reference: a new system. What the document is handed. The system is the document's. The law on notes that are taken at once. A copy of a system. The law on notes that are taken one by one. No condition. -/
import Derived.Test.YtlhnmbajbhaaoaaGreatSL2
import Derived.Test.YtlhnmbajbhaaoaaGreatB9
import Derived.Test.YtlhnmbajbhaaoaaGreatB7
import Derived.Test.YtlhnmbajbhaaoaaGreatB6
namespace Go.Proofs.YtlhnmbajbhaaoaaGreat
open Go Go.SL
set_option linter.unusedSimpArgs false
set_option linter.unusedVariables false
set_option maxRecDepth 10000
set_option maxHeartbeats 4000000
attribute [local irreducible] WP WPL QSeq QBlk QRet Does Cell Cells Rd Mine Ent Aside RV Yield TabAt SemAt IdeAt
section
variable {B : World} {H F G : HProp} {J : Ide} {a : RA} {n : Nt} {K : Int} {cnt : List Int}
theorem do8 (hr0 : RI B G J a) (E : Ent H G) (ok : J.ok K) (hK : K ≤ 90000) (hmay : mayB J n = true) (e : n.kind = 8) {j : Nat} {t : List Int} {c : Int} (hx : n.x = (j : Int)) (hj4 : j < 4) (hj : J.sem[j]? = some (n.g :: t, c)) (okS : (J.tab.set n.g 1).2.ok (K + 3)) (hstp : stepI J n = Ide.tset ({ J.nx with sem := J.sem.set j (t, c) }) n.g 1) :
    Does Tryz.prog B 24 [rfV J a, noteV n] H fun r H' => DoR B H G (stepI J n) r H' := by
  have hst := hstp
  have hr := hr0.ent E
  have hK1 : K + 1 ≤ 100000 := by omega
  have hK : K ≤ 100000 := by omega
  have hml := ok.ml
  have hpl := ok.pl
  have hsl := ok.sl
  have htl := ok.tl
  have hmany := ok.many
  have hcc := ok.c
  obtain ⟨_, c1, c2, c3, c4, c5, c6, _⟩ := hcc
  have hmx : J.ms.length ≤ maxLen := by simp only [maxLen]; omega
  have hpx : J.ps.length ≤ maxLen := by simp only [maxLen]; omega
  rw [hst]
  obtain ⟨⟨o1_, k1_, o2_, k2_, o3_, k3_⟩, oc_, kc_, ow_, kw_, om_, km_, op_, kp_, ws_⟩ := a
  refine Does.weak (R := fun r H' => ∃ G', Ent H' G' ∧ DoR B H G _ r G') ?_ fun v H1 h => h
  refine fn_intro 122 Tryz.func24 rfl rfl rfl ?_
  refine walk ?_
  refine s_box rfl rfl rfl ?_
  intro b2
  refine walk ?_
  refine s_box (cs := nv n) rfl rfl rfl ?_
  intro b3
  refine s_alloc rfl ?_
  intro b4
  refine walk ?_
  refine s_call rfl (rCopied (hr.ent InH.ent) ok hK) rfl ?_
  rintro _ _ ⟨bc, kc, sc, bw, kw, sw, bm, km, sm, bp, kp, sp, q, rfl, hq, rfl⟩
  refine WPL.split (Ws q) (WPL.under fun w_ hw_ => ⟨_, hw_, ?_⟩)
  have hws := Ws.rds ⟨w_, hw_.ent (Ent.drop_right _ _)⟩
  clear hw_ w_
  have hql : q.length = 4 := by have := congrArg List.length hq; simp only [List.length_map] at this; omega
  refine walk ?_
  refine s_storeV (vs := (rfC J ⟨⟨o1_, k1_, o2_, k2_, o3_, k3_⟩, some ⟨bc, 0, none⟩, kc, some ⟨bw, 0, none⟩, kw, some ⟨bm, 0, none⟩, km, some ⟨bp, 0, none⟩, kp, q.map (·.1)⟩)) rfl rfl rfl rfl rfl ?_
  refine walk ?_
  refine s_store (v := .int .i64 (J.many + 1)) (cs' := rfC J.nx ⟨⟨o1_, k1_, o2_, k2_, o3_, k3_⟩, some ⟨bc, 0, none⟩, kc, some ⟨bw, 0, none⟩, kw, some ⟨bm, 0, none⟩, km, some ⟨bp, 0, none⟩, kp, q.map (·.1)⟩) rfl rfl rfl (by simp) rfl ?_
  obtain ⟨o, cap, q1, q2, q3, q4⟩ := ws_rd hq hws hj
  have hjl : j < (q.map (·.1)).length := by rw [List.length_map]; omega
  have hgq : (q.map (·.1) ++ sw)[0 + j]? = some (.slice o (t.length + 1) cap) := by rw [Nat.zero_add, List.getElem?_append_left hjl, List.getElem?_map, q1]; rfl
  have hq3 : t.length + 1 ≤ cap := q3
  refine walk ?_
  (refine wp_draw [12] (.look 0 (.look 1 (.look 2 (.look 3 (.look 4 (.look 5 (.look 6 (.look 7 (.look 8 (.look 9 (.look 10 (.look 11 (.act 12 .nil .stop))))))))))))) (by kernel_rfl) ?_; refine dwP ?_; refine dwL ?_; refine dwP ?_; refine dwL ?_; refine dwP ?_; refine dwL ?_; refine dwP ?_; refine dwL ?_; (apply dw_pure; (· exact rfl); (· exact rfl); (· (intro G; (apply s_indexAddr (j := j) (o' := 0 + j); (· exact rfl); (· exact rfl); (· omega); (· omega); (· omega); (· exact rfl)); exact looked))); (apply dw_look; (· exact rfl); (· exact rfl); (· (refine s_load rfl (Cell.blk hgq) rfl ?_; exact looked))); (apply dw_pure; (· exact rfl); (· exact rfl); (· (intro G; refine s_sliceL (l := 1) rfl rfl rfl (by omega) rfl ?_; exact looked))); (apply dw_pure; (· exact rfl); (· exact rfl); (· (intro G; (apply s_indexAddr (j := j) (o' := 0 + j); (· exact rfl); (· exact rfl); (· omega); (· omega); (· omega); (· exact rfl)); exact looked))); skip)
  refine dw_do0 rfl rfl ?_ dw_stop
  refine s_store (v := (.slice (partAddr o cap 1 1) t.length (cap - 1))) (cs' := (q.map (·.1)).set j (.slice (partAddr o cap 1 1) t.length (cap - 1)) ++ sw) rfl rfl rfl ?_ (by rw [Nat.zero_add, List.set_append_left _ _ hjl]) ?_
  · simp only [List.length_append]; omega
  refine wpl_nil (qone0 ⟨(by refine st_past (by kernel_rfl) ?_; refine st_past (by kernel_rfl) ?_; refine st_past (by kernel_rfl) ?_; refine st_past (by kernel_rfl) ?_; refine st_past (by kernel_rfl) ?_; exact st_nil), ?_⟩)
  (refine dw_nil ?_; skip)
  refine walk ?_
  refine s_loadA (vs := RefA.cells ⟨o1_, k1_, o2_, k2_, o3_, k3_⟩ J.tab) rfl (Cells.blk (three rfl rfl rfl)) rfl rfl ?_
  refine walk ?_
  refine s_call rfl (rSet (a := ⟨o1_, k1_, o2_, k2_, o3_, k3_⟩) (K := K) (hr.tab.ent Ent.auto) ok.tab hK) rfl ?_
  rintro _ _ ⟨X1, t1, rfl, rfl, hX1⟩
  refine walk ?_
  refine s_storeA (vs := RefA.cells t1 (J.tab.set n.g 1).2) (cs' := rfC (Ide.tset ({ J.nx with sem := J.sem.set j (t, c) }) n.g 1) ⟨t1, some ⟨bc, 0, none⟩, kc, some ⟨bw, 0, none⟩, kw, some ⟨bm, 0, none⟩, km, some ⟨bp, 0, none⟩, kp, q.map (·.1)⟩) rfl rfl rfl rfl (by show 6 + 3 ≤ 14; omega) rfl ?_
  refine walk ?_
  refine s_call rfl (rEnds0 (J := Ide.tset ({ J.nx with sem := J.sem.set j (t, c) }) n.g 1) (K := K + 3) (ws := q.map (·.1)) rfl (by omega) ((hX1 H hr.tab).ent Ent.auto) okS (by omega)) rfl ?_
  rintro _ _ ⟨X, t', rfl, rfl, hX⟩
  refine walk ?_
  refine s_storeV (vs := rfC (Ide.tset ({ J.nx with sem := J.sem.set j (t, c) }) n.g 1) ⟨t', some ⟨bc, 0, none⟩, kc, some ⟨bw, 0, none⟩, kw, some ⟨bm, 0, none⟩, km, some ⟨bp, 0, none⟩, kp, q.map (·.1)⟩) rfl rfl rfl rfl rfl ?_
  refine walk ?_
  refine retR1 (.inr rfl) rfl (rv_cellA rfl Cells.blk0 rfl) (own_fin (J := Ide.tset ({ J.nx with sem := J.sem.set j (t, c) }) n.g 1) (t := t') (sc := sc) (sw := sw) (sm := sm) (sp := sp) (ws := (q.map (·.1)).set j (.slice (partAddr o cap 1 1) t.length (cap - 1))) (X := X + (X1 + Ws q)) (cn := zs (J.sem.map (·.2))) (by show zs ((J.sem.set j (t, c)).map (·.2)) = _; rw [map2_set hj]) rfl ?_ ?_ (by show (List.set _ _ _).length = 4; rw [List.length_set]; exact hsl) (by rw [List.length_set, List.length_map]; exact hql) hmx hpx ?_)
  · simp only [HProp.add_assoc]; exact Ent.auto
  · exact (hX (X1 + G) (hX1 G hr0.tab)).ent (by simp only [HProp.add_assoc]; exact Ent.auto)
  · intro i l2 c2 hi
    have hi : (J.sem.set j (t, c))[i]? = some (l2, c2) := hi
    by_cases e0 : j = i
    · subst e0
      rw [List.getElem?_set_self (by omega)] at hi
      cases hi
      exact ⟨_, _, List.getElem?_set_self hjl, (Rd.sliceL 1 q2 (by simp) q3).ent (by simp only [HProp.add_assoc]; exact Ent.auto)⟩
    · rw [List.getElem?_set_ne e0] at hi
      obtain ⟨o', k', e1, e2, _⟩ := ws_rd hq hws hi
      exact ⟨o', k', by rw [List.getElem?_set_ne e0, List.getElem?_map, e1]; rfl, e2.ent (by simp only [HProp.add_assoc]; exact Ent.auto)⟩
theorem do6 (hr0 : RI B G J a) (E : Ent H G) (ok : J.ok K) (hK : K ≤ 90000) (hmay : mayB J n = true) (e : n.kind = 6) (hM : ∃ k : Nat, n.m = (k : Int) ∧ k < J.ms.length) (hP : ∃ k : Nat, n.p = (k : Int) ∧ k < J.ps.length) {j : Nat} {l : List Int} {c : Int} (hx : n.x = (j : Int)) (hj4 : j < 4) (hj : J.sem[j]? = some (l, c)) (hstp : stepI J n = (({ J.nx with sem := J.sem.set j (l ++ [n.g], c) } : Ide).tset n.g 3).has n.m n.p 1 (-1)) :
    Does Tryz.prog B 24 [rfV J a, noteV n] H fun r H' => DoR B H G (stepI J n) r H' := by
  have hst := hstp
  have hlK := ok.sk j l c hj
  obtain ⟨k, hm, hk⟩ := hM
  obtain ⟨kk, hp, hkk⟩ := hP
  have hr := hr0.ent E
  have hK1 : K + 1 ≤ 100000 := by omega
  have hK : K ≤ 100000 := by omega
  have hml := ok.ml
  have hpl := ok.pl
  have hsl := ok.sl
  have htl := ok.tl
  have hmany := ok.many
  have hcc := ok.c
  obtain ⟨_, c1, c2, c3, c4, c5, c6, _⟩ := hcc
  have hmx : J.ms.length ≤ maxLen := by simp only [maxLen]; omega
  have hpx : J.ps.length ≤ maxLen := by simp only [maxLen]; omega
  rw [hst]
  obtain ⟨⟨o1_, k1_, o2_, k2_, o3_, k3_⟩, oc_, kc_, ow_, kw_, om_, km_, op_, kp_, ws_⟩ := a
  refine Does.weak (R := fun r H' => ∃ G', Ent H' G' ∧ DoR B H G _ r G') ?_ fun v H1 h => h
  refine fn_intro 122 Tryz.func24 rfl rfl rfl ?_
  refine walk ?_
  refine s_box rfl rfl rfl ?_
  intro b2
  refine walk ?_
  refine s_box (cs := nv n) rfl rfl rfl ?_
  intro b3
  refine s_alloc rfl ?_
  intro b4
  refine walk ?_
  refine s_call rfl (rCopied (hr.ent InH.ent) ok hK) rfl ?_
  rintro _ _ ⟨bc, kc, sc, bw, kw, sw, bm, km, sm, bp, kp, sp, q, rfl, hq, rfl⟩
  refine WPL.split (Ws q) (WPL.under fun w_ hw_ => ⟨_, hw_, ?_⟩)
  have hws := Ws.rds ⟨w_, hw_.ent (Ent.drop_right _ _)⟩
  clear hw_ w_
  have hql : q.length = 4 := by have := congrArg List.length hq; simp only [List.length_map] at this; omega
  refine walk ?_
  refine s_storeV (vs := (rfC J ⟨⟨o1_, k1_, o2_, k2_, o3_, k3_⟩, some ⟨bc, 0, none⟩, kc, some ⟨bw, 0, none⟩, kw, some ⟨bm, 0, none⟩, km, some ⟨bp, 0, none⟩, kp, q.map (·.1)⟩)) rfl rfl rfl rfl rfl ?_
  refine walk ?_
  refine s_store (v := .int .i64 (J.many + 1)) (cs' := rfC J.nx ⟨⟨o1_, k1_, o2_, k2_, o3_, k3_⟩, some ⟨bc, 0, none⟩, kc, some ⟨bw, 0, none⟩, kw, some ⟨bm, 0, none⟩, km, some ⟨bp, 0, none⟩, kp, q.map (·.1)⟩) rfl rfl rfl (by simp) rfl ?_
  obtain ⟨o, cap, q1, q2, q3, q4⟩ := ws_rd hq hws hj
  have hjl : j < (q.map (·.1)).length := by rw [List.length_map]; omega
  have hgq : (q.map (·.1) ++ sw)[0 + j]? = some (.slice o l.length cap) := by rw [Nat.zero_add, List.getElem?_append_left hjl, List.getElem?_map, q1]; rfl
  refine WPL.split (Ws q) ?_
  rw [Ws.out q1]
  refine WPL.split (Ws (q.eraseIdx j)) (WPL.under fun w_ hw_ => ⟨_, hw_, ?_⟩)
  have hws2 := Ws.rds ⟨w_, hw_.ent (Ent.drop_right _ _)⟩
  clear hw_ w_
  refine walk ?_
  (refine wp_draw [12, 13, 15] (.look 0 (.look 1 (.look 2 (.look 3 (.look 4 (.look 5 (.look 6 (.look 7 (.look 8 (.look 9 (.look 10 (.look 11 (.act 12 (.act 13 (.look 14 (.act 15 .nil .stop)) .stop) .stop))))))))))))) (by kernel_rfl) ?_; refine dwP ?_; refine dwL ?_; refine dwP ?_; refine dwL ?_; refine dwP ?_; refine dwL ?_; refine dwP ?_; refine dwL ?_; (apply dw_pure; (· exact rfl); (· exact rfl); (· (intro G; (apply s_indexAddr (j := j) (o' := 0 + j); (· exact rfl); (· exact rfl); (· omega); (· omega); (· omega); (· exact rfl)); exact looked))); (apply dw_look; (· exact rfl); (· exact rfl); (· (refine s_load rfl (Cell.blk hgq) rfl ?_; exact looked))); refine dwP ?_; refine dwL ?_; skip)
  refine dw_do rfl rfl ?_ dw_stop
  refine s_buildInts (cs := [.int .i64 n.g]) rfl rfl rfl rfl rfl ?_
  intro b12
  refine wpl_nil (qone ⟨(by refine st_past (by kernel_rfl) ?_; (refine st_again ?_ ?_; (· refine s_load rfl (Cell.blk hgq) rfl ?_; exact looked)); (refine st_again ?_ ?_; (· exact looked)); (refine st_again ?_ ?_; (· exact looked)); (refine st_again ?_ ?_; (· exact looked)); (refine st_again ?_ ?_; (· exact looked)); exact st_nil), ?_⟩)
  (skip)
  refine dw_do rfl rfl ?_ dw_stop
  refine s_append (v := .slice o l.length cap) rfl rfl (Rd.blk0 (m := 1) (e := 3) rfl (by simp [maxLen])) rfl rfl ?_ rfl ?_
  · simp only [maxLen]; omega
  intro v13
  refine WPL.shape ?_
  rintro a6 c6 rfl _ _ _
  refine WPL.rd fun rdN => ?_
  refine wpl_nil (qone ⟨(by refine st_past (by kernel_rfl) ?_; refine st_past (by kernel_rfl) ?_; refine st_past (by kernel_rfl) ?_; refine st_past (by kernel_rfl) ?_; (refine st_again ?_ ?_; (· exact looked)); (refine st_again ?_ ?_; (· exact looked)); exact st_nil), ?_⟩)
  ((apply dw_pure; (· exact rfl); (· exact rfl); (· (intro G; (apply s_indexAddr (j := j) (o' := 0 + j); (· exact rfl); (· exact rfl); (· omega); (· omega); (· omega); (· exact rfl)); exact looked))); skip)
  refine dw_do0 rfl rfl ?_ dw_stop
  refine s_store (v := (.slice a6 (l.length + 1) c6)) (cs' := (q.map (·.1)).set j (.slice a6 (l.length + 1) c6) ++ sw) rfl rfl rfl ?_ (by rw [Nat.zero_add, List.set_append_left _ _ hjl]) ?_
  · simp only [List.length_append]; omega
  refine wpl_nil (qone0 ⟨(by refine st_past (by kernel_rfl) ?_; refine st_past (by kernel_rfl) ?_; refine st_past (by kernel_rfl) ?_; refine st_past (by kernel_rfl) ?_; refine st_past (by kernel_rfl) ?_; refine st_past (by kernel_rfl) ?_; exact st_nil), ?_⟩)
  (refine dw_nil ?_; skip)
  refine walk ?_
  refine s_call rfl (rOn (J := { J.nx with sem := J.sem.set j (l ++ [n.g], c) }) (k := k) (kk := kk) (K := K) (ws := q.map (·.1)) rfl hm hk hp hkk (hr.tab.ent Ent.auto) ok.tab hK) rfl ?_
  rintro _ _ ⟨X, t', rfl, rfl, hX⟩
  refine walk ?_
  refine s_storeV (vs := rfC ((({ J.nx with sem := J.sem.set j (l ++ [n.g], c) } : Ide).tset n.g 3).has n.m n.p 1 (-1)) ⟨t', some ⟨bc, 0, none⟩, kc, some ⟨bw, 0, none⟩, kw, some ⟨bm, 0, none⟩, km, some ⟨bp, 0, none⟩, kp, q.map (·.1)⟩) rfl rfl rfl rfl rfl ?_
  refine walk ?_
  refine retR1 (.inr rfl) rfl (rv_cellA rfl Cells.blk0 rfl) (own_fin (J := (({ J.nx with sem := J.sem.set j (l ++ [n.g], c) } : Ide).tset n.g 3).has n.m n.p 1 (-1)) (t := t') (sc := sc) (sw := sw) (sm := sm) (sp := sp) (ws := (q.map (·.1)).set j (.slice a6 (l.length + 1) c6)) (X := X + (Mine 3 1 (.slice a6 (l.length + 1) c6) (l.length + 1) (zs l ++ [.int .i64 n.g]) + Ws (q.eraseIdx j))) (cn := zs (J.sem.map (·.2))) (by show zs ((J.sem.set j (l ++ [n.g], c)).map (·.2)) = _; rw [map2_set hj]) rfl ?_ ?_ (by show (List.set _ _ _).length = 4; rw [List.length_set]; exact hsl) (by rw [List.length_set, List.length_map]; exact hql) ?_ ?_ ?_)
  · simp only [HProp.add_assoc]; exact Ent.auto
  · exact (hX G hr0.tab).ent (by simp only [HProp.add_assoc]; exact Ent.auto)
  · show (List.modify _ _ _).length ≤ _; rw [List.length_modify]; exact hmx
  · show (if 0 ≤ n.p then J.ps.set n.p.toNat n.m else J.ps).length ≤ _; split <;> simpa using hpx
  · intro i l2 c2 hi
    have hi : (J.sem.set j (l ++ [n.g], c))[i]? = some (l2, c2) := hi
    by_cases e0 : j = i
    · subst e0
      rw [List.getElem?_set_self (by omega)] at hi
      cases hi
      rw [len_push, zs_push]
      exact ⟨_, _, List.getElem?_set_self hjl, rdN.ent (by simp only [HProp.add_assoc]; exact Ent.auto)⟩
    · rw [List.getElem?_set_ne e0] at hi
      obtain ⟨o', k', e1, e2, _⟩ := ws_rd hq hws hi
      have hmem : ((.slice o' l2.length k', l2) : Value × List Int) ∈ q.eraseIdx j := List.mem_eraseIdx_iff_getElem?.2 ⟨i, fun e => e0 e.symm, e1⟩
      exact ⟨o', k', by rw [List.getElem?_set_ne e0, List.getElem?_map, e1]; rfl, (hws2 _ hmem).1.ent (by simp only [HProp.add_assoc]; exact Ent.auto)⟩
end
end Go.Proofs.YtlhnmbajbhaaoaaGreat
namespace Go.Proofs.YtlhnmbajbhaaoaaGreat
open Go Go.SL
set_option linter.unusedSimpArgs false
set_option linter.unusedVariables false
set_option maxRecDepth 10000
set_option maxHeartbeats 4000000
attribute [local irreducible] WP WPL QSeq QBlk QRet Does Cell Cells Rd Mine Ent Aside RV Yield TabAt SemAt IdeAt
section
variable {B : World} {H F G : HProp} {J : Ide} {a : RA} {n : Nt} {K : Int} {cnt : List Int} {l : List Nt} {s : Value}
theorem rDo (hr0 : RI B G J a) (E : Ent H G) (ok : J.ok K) (hK : K ≤ 90000) (inv : Inv J cnt) (hmay : mayB J n = true) :
    Does Tryz.prog B 24 [rfV J a, noteV n] H fun r H' => DoR B H G (stepI J n) r H' := by
  obtain ⟨hk16, hrt, hy⟩ := mayB_of hmay
  obtain ⟨rg, rp, rm, rx⟩ := right_of hrt
  have hml := ok.ml
  have mM : (109 : UInt8) ∈ fK n.kind → ∃ k : Nat, n.m = (k : Int) ∧ k < J.ms.length := rngM ok hmay
  have pP : (112 : UInt8) ∈ fK n.kind → ∃ k : Nat, n.p = (k : Int) ∧ k < J.ps.length := rngP ok hmay
  rcases kinds_or hk16 with e | e | e | e | e | e | e | e | e | e | e | e | e | e | e | e
  · exact do1 hr0 E ok hK hmay e
  · exact do2 hr0 E ok hK hmay e (mM (by rw [e]; decide)) (pP (by rw [e]; decide))
  · exact do3 hr0 E ok hK hmay e (mM (by rw [e]; decide)) (pP (by rw [e]; decide))
  · exact do4 hr0 E ok hK hmay e (mM (by rw [e]; decide)) (pP (by rw [e]; decide))
  · obtain ⟨j, l, c, h1, h2, h3, h4, h5, h6⟩ := step5 inv ok hmay e
    exact do5 hr0 E ok hK hmay e h1 h2 h3 (by omega) h5 h6
  · obtain ⟨j, l, c, h1, h2, h3, h6⟩ := step6 inv ok hmay e
    exact do6 hr0 E ok hK hmay e (mM (by rw [e]; decide)) (pP (by rw [e]; decide)) h1 h2 h3 h6
  · obtain ⟨j, l, c, h1, h2, h3, h4, h5, h6⟩ := step7 inv ok hmay e
    exact do7 hr0 E ok hK hmay e h1 h2 h3 h4 (by omega) h6
  · obtain ⟨j, l, c, h1, h2, h3, h6⟩ := step8 inv ok hmay e
    have okS := (ok.step hmay).tab
    rw [h6] at okS
    exact do8 hr0 E ok hK hmay e h1 h2 h3 okS h6
  · exact do9 hr0 E ok hK hmay e (mM (by rw [e]; decide)) (pP (by rw [e]; decide))
  · exact do10 hr0 E ok hK hmay e (mM (by rw [e]; decide)) (pP (by rw [e]; decide))
  · by_cases hx : n.x = 1
    · have hkept : J.kept n.p = true := by
        unfold mayK at hy
        simp only [e, hx, if_pos] at hy
        simp at hy
        exact hy.2.2
      exact do11a hr0 E ok hK hmay e hx (mM (by rw [e]; decide)) (pP (by rw [e]; decide)) fun kk hp hkk => kept_of ok hkept hp hkk
    · exact do11b hr0 E ok hK hmay e hx (mM (by rw [e]; decide)) (pP (by rw [e]; decide))
  · exact do12 hr0 E ok hK hmay e (mM (by rw [e]; decide))
  · exact do13 hr0 E ok hK hmay e (mM (by rw [e]; decide)) (pP (by rw [e]; decide))
  · obtain ⟨k, old, hm, hk, hA⟩ := mGet (I := J) (m := n.m) (by have := rm (by rw [e]; decide); omega)
    have hs : searchesB J n = true := by
      unfold mayK at hy
      simp only [e] at hy
      simpa using hy
    unfold searchesB at hs
    rw [decide_eq_true_eq, hA] at hs
    exact do14 hr0 E ok hK hmay e hm (List.getElem?_eq_some_iff.1 hk).1 hk hs.2.2 (pP (by rw [e]; decide))
  · have hkept : J.kept n.p = true := by
      unfold mayK at hy
      simp only [e] at hy
      simpa using hy
    exact do15 hr0 E ok hK hmay e (pP (by rw [e]; decide)) fun kk hp hkk => kept_of ok hkept hp hkk
  · exact do16 hr0 E ok hK hmay e
theorem rTake (hr0 : RI B G J a) (E : Ent H G) (hs : Rd B H 5 s l.length (nvs l)) (ok : J.ok K) (hK : K + 3 * l.length ≤ 80000) (inv : Inv J cnt) :
    Does Tryz.prog B 9 [rfV J a, s] H fun r H' => ∃ X a', r = .tuple #[rfV (takeI J l).2 a', .int .i64 ((takeI J l).1 : Int), .int .i64 (if (takeI J l).1 = l.length then 0 else 260)] ∧ H' = X + H ∧ RI B (X + G) (takeI J l).2 a' := by
  have h0 := ok.many
  unfold Rd at hs
  obtain ⟨ao, cap, rfl, hl, hm, hc⟩ := hs
  unfold maxLen at hm
  refine Does.weak (R := fun r H' => ∃ X a', r = .tuple #[rfV (takeI J l).2 a', .int .i64 ((takeI J l).1 : Int), .int .i64 (if (takeI J l).1 = l.length then 0 else 260)] ∧ Ent H' (X + H) ∧ RI B (X + G) (takeI J l).2 a') ?_ fun v H1 ⟨X, a', h1, h2, h3⟩ => ⟨_, h2, X, a', h1, rfl, h3⟩
  refine fn_intro 32 Tryz.func9 rfl rfl rfl ?_
  refine walk ?_
  refine s_box (cs := rfC J a) rfl rfl rfl ?_
  intro b2
  refine s_alloc rfl ?_
  intro b4
  refine walk ?_
  refine wp_loopF (α := Nat × Ide × RA × HProp) [5, 6, 7, 8, 9, 10, 11, 12, 13, 14, 15, 16, 17, 18, 19, 20, 21, 22, 23, 24, 25, 26, 27, 28] (fun z => [(7, .int .i64 (z.1 : Nat))]) (fun z => blk b2 (rfC z.2.1 z.2.2.1) 35 + (blk b4 [.int .i64 0, .int .i64 0, .int .i64 0, .int .i64 0, .int .i64 0, .int .i64 0, .slice none 0 0, .slice none 0 0, .slice none 0 0, .slice none 0 0, .slice none 0 0, .slice none 0 0, .slice none 0 0, .int .i64 0] 35 + (z.2.2.2 + H)))
    (fun z => z.1 ≤ l.length ∧ z.2.1.ok (K + 3 * z.1) ∧ (∃ cnt, Inv z.2.1 cnt) ∧ RI B (z.2.2.2 + G) z.2.1 z.2.2.1 ∧ takeI J l = (z.1 + (takeI z.2.1 (l.drop z.1)).1, (takeI z.2.1 (l.drop z.1)).2)) (fun z => l.length - z.1) (0, J, a, emp) agreed (by simp only [HProp.emp_add]; exact Ent.auto) ⟨Nat.zero_le _, by simpa using ok, ⟨cnt, inv⟩, by simp only [HProp.emp_add]; exact hr0, by simp⟩ ?_
  rintro ⟨k, I, a1, X⟩ f ⟨hk, okI, ⟨cn, inI⟩, hrI, htk⟩
  simp only at hk okI inI hrI htk
  simp only [putAll]
  by_cases hlt : k < l.length
  · obtain ⟨bs, os, rfl, hcs⟩ : ∃ b o, ao = some ⟨b, o, none⟩ ∧ Cells B H b o (nvs l) := by
      rcases hc with h | ⟨b, o, h1, h2⟩
      · rw [h] at hl; simp at hl; omega
      · exact ⟨b, o, h1, h2⟩
    have hcell := nvs_cells hcs hlt
    rw [List.drop_eq_getElem_cons hlt, takeI_cons] at htk
    obtain ⟨n, hn⟩ : ∃ n, l[k] = n := ⟨_, rfl⟩
    rw [hn] at htk hcell
    cases hmay : mayB I n with
    | false =>
      rw [if_neg (by rw [hmay]; simp)] at htk
      have e1 : (takeI J l).1 = k := by rw [htk]; simp
      have e2 : (takeI J l).2 = I := by rw [htk]
      rw [e1, e2, if_neg (by omega)]
      refine walk ?_
      (refine wp_draw [5] (.look 0 (.look 1 (.look 2 (.look 3 (.look 4 (.act 5 (.look 6 .nil) .stop)))))) (by kernel_rfl) ?_; refine dwL ?_; refine dwP ?_; refine dwP ?_; refine dwP ?_; refine dwL ?_; skip)
      refine dw_do rfl rfl ?_ dw_stop
      refine s_call rfl (rMay (hrI.ent (Ent.trans Ent.auto ((Ent.refl X).add E))) okI inI) rfl ?_
      rintro _ _ ⟨e_, rfl⟩
      obtain rfl := e_.symm
      rw [hmay]
      refine wpl_nil (qone ⟨(by refine st_past (by kernel_rfl) ?_; refine st_past (by kernel_rfl) ?_; exact st_nil), ?_⟩)
      (refine dwP ?_; refine dw_nil ?_; skip)
      refine walk ?_
      refine s_storeV (vs := rfC I a1) rfl rfl rfl rfl rfl ?_
      refine walk ?_
      exact retR3 (.inr rfl) rfl (rv_cellA rfl Cells.blk0 rfl) (rv_tmp rfl) (rv_tmp rfl) ⟨X, a1, rfl, Ent.auto, hrI⟩
    | true =>
      rw [if_pos hmay] at htk
      have okS' : (stepI I n).ok (K + 3 * ((k + 1 : Nat) : Int)) := by
        have e : K + 3 * ((k + 1 : Nat) : Int) = K + 3 * (k : Int) + 3 := by omega
        rw [e]; exact okI.step hmay
      refine walk ?_
      (refine wp_draw [5] (.look 0 (.look 1 (.look 2 (.look 3 (.look 4 (.act 5 (.look 6 .nil) .stop)))))) (by kernel_rfl) ?_; refine dwL ?_; refine dwP ?_; refine dwP ?_; refine dwP ?_; refine dwL ?_; skip)
      refine dw_do rfl rfl ?_ dw_stop
      refine s_call rfl (rMay (hrI.ent (Ent.trans Ent.auto ((Ent.refl X).add E))) okI inI) rfl ?_
      rintro _ _ ⟨e_, rfl⟩
      obtain rfl := e_.symm
      rw [hmay]
      refine wpl_nil (qone ⟨(by refine st_past (by kernel_rfl) ?_; refine st_past (by kernel_rfl) ?_; exact st_nil), ?_⟩)
      (refine dwP ?_; refine dw_nil ?_; skip)
      refine walk ?_
      (refine wp_draw [5, 6] (.look 0 (.look 1 (.look 2 (.look 3 (.look 4 (.act 5 (.act 6 .nil .stop) .stop)))))) (by kernel_rfl) ?_; refine dwL ?_; refine dwP ?_; refine dwP ?_; refine dwP ?_; refine dwL ?_; skip)
      refine dw_do rfl rfl ?_ dw_stop
      refine s_call rfl (rDo (G := X + G) hrI (Ent.trans Ent.auto ((Ent.refl X).add E)) okI (by omega) inI hmay) rfl ?_
      rintro _ _ ⟨X2, a2, rfl, rfl, hr2⟩
      refine wpl_nil (qone ⟨(by refine st_past (by kernel_rfl) ?_; refine st_past (by kernel_rfl) ?_; exact st_nil), ?_⟩)
      (skip)
      refine dw_do0 rfl rfl ?_ dw_stop
      refine s_storeV (vs := rfC (stepI I n) a2) rfl rfl rfl rfl rfl ?_
      refine wpl_nil (qone0 ⟨(by refine st_past (by kernel_rfl) ?_; refine st_past (by kernel_rfl) ?_; exact st_nil), ?_⟩)
      (refine dw_nil ?_; skip)
      refine walk ?_
      refine ⟨(k + 1, stepI I n, a2, X2 + X), asided, agreed, ?_, ⟨by omega, okS', ⟨_, inv_step inI okI hmay⟩, by rw [HProp.add_assoc]; exact hr2, by rw [htk]; simp only [Prod.mk.injEq, and_true]; omega⟩, by simp only; omega⟩
      simp only [HProp.add_assoc]
      exact Ent.auto
  · have hkl : k = l.length := by omega
    rw [hkl, List.drop_length] at htk
    have e1 : (takeI J l).1 = l.length := by rw [htk]; simp [takeI]
    have e2 : (takeI J l).2 = I := by rw [htk]; rfl
    rw [e1, e2, if_pos rfl]
    refine walk ?_
    refine s_storeV (vs := rfC I a1) rfl rfl rfl rfl rfl ?_
    refine walk ?_
    exact retR3 (.inr rfl) rfl (rv_cellA rfl Cells.blk0 rfl) (rv_tmp rfl) (rv_tmp rfl) ⟨X, a1, rfl, Ent.auto, hrI⟩
end
end Go.Proofs.YtlhnmbajbhaaoaaGreat
namespace Go.Proofs.YtlhnmbajbhaaoaaGreat
open Go Go.SL
set_option linter.unusedSimpArgs false
set_option linter.unusedVariables false
set_option maxRecDepth 10000
set_option maxHeartbeats 4000000
theorem mcs_push (l : List Mc) (m : Mc) : mcs (l ++ [m]) = mcs l ++ mcC m := by rw [mcs_app]; simp [mcs]
theorem first_set (k : Nat) (hk : 0 < k) (sm : List Value) : (mcs (List.replicate k restR) ++ sm).take 0 ++ mcC ⟨1, 0, -1, -1⟩ ++ (mcs (List.replicate k restR) ++ sm).drop (0 + 4) = mcs ((List.replicate k restR).modify 0 fun x => { x with a := 1, p := 0, g := -1 }) ++ sm := by
  cases k with
  | zero => omega
  | succ k => simp [List.replicate_succ, mcs, mcC, restR]
attribute [local irreducible] WP WPL QSeq QBlk QRet Does Cell Cells Rd Mine Ent Aside RV Yield TabAt SemAt IdeAt
section
variable {B : World} {H F G : HProp} {J : Ide} {a : RA} {n : Nt} {K : Int} {cnt : List Int} {c : Cfg}
theorem own_emp {r : Value} {H0 : HProp} (h : ∃ G', Ent H0 G' ∧ ∃ X a', r = rfV J a' ∧ G' = X + H ∧ RI B (X + emp) J a') : ∃ X a, r = rfV J a ∧ Ent H0 (X + H) ∧ RI B X J a := by
  obtain ⟨G', h1, X, a, h2, rfl, h4⟩ := h
  rw [HProp.add_emp] at h4
  exact ⟨X, a, h2, h1, h4⟩
theorem rNew27 (hc : RightP c) : Does Tryz.prog B 10 [cfgV c] H fun r H' => ∃ X a, r = rfV (newJ c) a ∧ H' = X + H ∧ RI B X (newJ c) a := by
  obtain ⟨_, c1, c2, c3, c4, c5, c6, _, _, c9, c10⟩ := hc
  obtain ⟨m, hm⟩ := Int.eq_ofNat_of_zero_le (show 0 ≤ c.m by omega)
  obtain ⟨n, hn⟩ := Int.eq_ofNat_of_zero_le (show 0 ≤ c.n by omega)
  obtain ⟨g, hg⟩ := Int.eq_ofNat_of_zero_le (show 0 ≤ c.g by omega)
  have okT : (Tab.new g).ok 0 := Tab.ok.new (by omega)
  refine Does.weak (R := fun r H' => ∃ X a, r = rfV (newJ c) a ∧ Ent H' (X + H) ∧ RI B X (newJ c) a) ?_ fun v H1 ⟨X, a', h1, h2, h3⟩ => ⟨_, h2, X, a', h1, rfl, h3⟩
  refine fn_intro 67 Tryz.func10 rfl rfl rfl ?_
  refine walk ?_
  refine s_box (cs := cv c) rfl rfl rfl ?_
  intro b1
  refine s_alloc rfl ?_
  intro b2
  refine walk ?_
  refine wp_cut_here (α := Nat × RefA × HProp) [3, 7, 8, 9, 10, 11] (fun z => [(3, ptr z.1)]) (fun z => blk z.1 [.int .i64 c.n, .int .i64 c.q, .int .i64 c.g, .int .i64 c.m, .int .i64 c.t, .int .i64 c.s, .slice z.2.1.o1 (Tab.new g).all.length z.2.1.k1, .slice z.2.1.o2 (Tab.new g).all.length z.2.1.k2, .slice z.2.1.o3 (Tab.new g).row.length z.2.1.k3, .slice none 0 0, .slice none 0 0, .slice none 0 0, .slice none 0 0, .int .i64 0] 35 + (z.2.2 + (blk b1 (cv c) 28 + (blk b2 [.int .i64 0, .int .i64 0, .int .i64 0, .int .i64 0, .int .i64 0, .int .i64 0, .slice none 0 0, .slice none 0 0, .slice none 0 0, .slice none 0 0, .slice none 0 0, .slice none 0 0, .slice none 0 0, .int .i64 0] 35 + H)))) (fun z => RefC B z.2.2 z.2.1 (Tab.new g)) ?_ ?_
  · skip
    (refine wp_draw [3, 5, 6] (.look 0 (.look 1 (.look 2 (.act 3 (.look 4 (.act 5 (.act 6 .nil .stop) .stop)) (.act 5 (.act 3 (.look 4 (.act 6 .nil .stop)) .stop) .stop))))) (by kernel_rfl) ?_; refine dwL ?_; refine dwP ?_; refine dwL ?_; skip)
    refine dw_do rfl rfl ?_ (dw_do rfl rfl ?_ dw_stop)
    · skip
      refine s_call rfl (rNew (n := c.g) (m := g) (by omega)) rfl ?_
      rintro _ _ ⟨X0, t0, rfl, rfl, hX0⟩
      refine wpl_nil (qone ⟨(by refine st_past (by kernel_rfl) ?_; (refine st_again ?_ ?_; (· exact looked)); exact st_nil), ?_⟩)
      ((apply dw_pure; (· exact rfl); (· exact rfl); (· (intro G; (refine s_build (cs := [.int .i64 c.n, .int .i64 c.q, .int .i64 c.g, .int .i64 c.m, .int .i64 c.t, .int .i64 c.s, .slice t0.o1 (Tab.new g).all.length t0.k1, .slice t0.o2 (Tab.new g).all.length t0.k2, .slice t0.o3 (Tab.new g).row.length t0.k3, .slice none 0 0, .slice none 0 0, .slice none 0 0, .slice none 0 0, .int .i64 0]) (by kernel_rfl) rfl ?_); exact looked))); skip)
      refine dw_do rfl rfl ?_ dw_stop
      refine s_alloc rfl ?_
      intro b3
      refine wpl_nil (qone ⟨(by (refine st_again ?_ ?_; (· exact looked)); (refine st_again ?_ ?_; (· exact looked)); exact st_nil), ?_⟩)
      (skip)
      refine dw_do0 rfl rfl ?_ dw_stop
      refine s_storeV (vs := [.int .i64 c.n, .int .i64 c.q, .int .i64 c.g, .int .i64 c.m, .int .i64 c.t, .int .i64 c.s, .slice t0.o1 (Tab.new g).all.length t0.k1, .slice t0.o2 (Tab.new g).all.length t0.k2, .slice t0.o3 (Tab.new g).row.length t0.k3, .slice none 0 0, .slice none 0 0, .slice none 0 0, .slice none 0 0, .int .i64 0]) rfl rfl rfl rfl rfl ?_
      refine wpl_nil (qone0 ⟨(by refine st_past (by kernel_rfl) ?_; refine st_past (by kernel_rfl) ?_; exact st_nil), ?_⟩)
      (refine dw_nil ?_; skip)
      refine walk ?_
      exact ⟨(b3, t0, X0), asided, agreed, Ent.auto, hX0⟩
    · skip
      refine s_alloc rfl ?_
      intro b3
      refine wpl_nil (qone ⟨(by (refine st_again ?_ ?_; (· exact looked)); (refine st_again ?_ ?_; (· exact looked)); exact st_nil), ?_⟩)
      (skip)
      refine dw_do rfl rfl ?_ dw_stop
      refine s_call rfl (rNew (n := c.g) (m := g) (by omega)) rfl ?_
      rintro _ _ ⟨X0, t0, rfl, rfl, hX0⟩
      refine wpl_nil (qone ⟨(by refine st_past (by kernel_rfl) ?_; (refine st_again ?_ ?_; (· exact looked)); exact st_nil), ?_⟩)
      ((apply dw_pure; (· exact rfl); (· exact rfl); (· (intro G; (refine s_build (cs := [.int .i64 c.n, .int .i64 c.q, .int .i64 c.g, .int .i64 c.m, .int .i64 c.t, .int .i64 c.s, .slice t0.o1 (Tab.new g).all.length t0.k1, .slice t0.o2 (Tab.new g).all.length t0.k2, .slice t0.o3 (Tab.new g).row.length t0.k3, .slice none 0 0, .slice none 0 0, .slice none 0 0, .slice none 0 0, .int .i64 0]) (by kernel_rfl) rfl ?_); exact looked))); skip)
      refine dw_do0 rfl rfl ?_ dw_stop
      refine s_storeV (vs := [.int .i64 c.n, .int .i64 c.q, .int .i64 c.g, .int .i64 c.m, .int .i64 c.t, .int .i64 c.s, .slice t0.o1 (Tab.new g).all.length t0.k1, .slice t0.o2 (Tab.new g).all.length t0.k2, .slice t0.o3 (Tab.new g).row.length t0.k3, .slice none 0 0, .slice none 0 0, .slice none 0 0, .slice none 0 0, .int .i64 0]) rfl rfl rfl rfl rfl ?_
      refine wpl_nil (qone0 ⟨(by refine st_past (by kernel_rfl) ?_; refine st_past (by kernel_rfl) ?_; exact st_nil), ?_⟩)
      (refine dw_nil ?_; skip)
      refine walk ?_
      exact ⟨(b3, t0, X0), asided, agreed, Ent.auto, hX0⟩
  rintro ⟨b3, t0, X0⟩ f1 hX0
  simp only at hX0
  simp only [putAll]
  refine walk ?_
  refine s_loadA (vs := RefA.cells t0 (Tab.new g)) rfl (Cells.blk (three rfl rfl rfl)) rfl rfl ?_
  refine walk ?_
  refine s_call rfl (rMake (a := t0) (K := 0) (hX0.ent InH.ent) okT (by omega)) rfl ?_
  rintro _ _ ⟨X1, t1, rfl, rfl, hX1⟩
  have hT := hX1 X0 hX0
  refine walk ?_
  refine s_storeA (vs := RefA.cells t1 (Tab.new g).make.2.2) (cs' := [.int .i64 c.n, .int .i64 c.q, .int .i64 c.g, .int .i64 c.m, .int .i64 c.t, .int .i64 c.s, .slice t1.o1 ((Tab.new g).make.2.2).all.length t1.k1, .slice t1.o2 ((Tab.new g).make.2.2).all.length t1.k2, .slice t1.o3 ((Tab.new g).make.2.2).row.length t1.k3, .slice none 0 0, .slice none 0 0, .slice none 0 0, .slice none 0 0, .int .i64 0]) rfl rfl rfl rfl (by show 6 + 3 ≤ 14; omega) rfl ?_
  refine walk ?_
  refine wp_loopF (α := Nat × (Option Addr × Nat) × (Option Addr × Nat)) [4, 20, 21, 22, 23, 24, 25, 26, 27, 28, 29, 30, 31, 32, 33, 34, 35] (fun z => [(4, .int .i64 z.1)])
    (fun z => blk b3 [.int .i64 c.n, .int .i64 c.q, .int .i64 c.g, .int .i64 c.m, .int .i64 c.t, .int .i64 c.s, .slice t1.o1 ((Tab.new g).make.2.2).all.length t1.k1, .slice t1.o2 ((Tab.new g).make.2.2).all.length t1.k2, .slice t1.o3 ((Tab.new g).make.2.2).row.length t1.k3, .slice z.2.1.1 z.1 z.2.1.2, .slice z.2.2.1 z.1 z.2.2.2, .slice none 0 0, .slice none 0 0, .int .i64 0] 35 + (Mine 3 1 (.slice z.2.1.1 z.1 z.2.1.2) z.1 (zs (List.replicate z.1 c.s)) + (Mine 29 1 (.slice z.2.2.1 z.1 z.2.2.2) z.1 (List.replicate z.1 (.slice none 0 0)) + (blk b1 (cv c) 28 + (blk b2 [.int .i64 0, .int .i64 0, .int .i64 0, .int .i64 0, .int .i64 0, .int .i64 0, .slice none 0 0, .slice none 0 0, .slice none 0 0, .slice none 0 0, .slice none 0 0, .slice none 0 0, .slice none 0 0, .int .i64 0] 35 + (X1 + (X0 + H)))))))
    (fun z => z.1 ≤ 4) (fun z => 4 - z.1) (0, (none, 0), (none, 0)) agreed ?_ (Nat.zero_le _) ?_
  · show Ent _ (blk b3 [.int .i64 c.n, .int .i64 c.q, .int .i64 c.g, .int .i64 c.m, .int .i64 c.t, .int .i64 c.s, .slice t1.o1 ((Tab.new g).make.2.2).all.length t1.k1, .slice t1.o2 ((Tab.new g).make.2.2).all.length t1.k2, .slice t1.o3 ((Tab.new g).make.2.2).row.length t1.k3, .slice none 0 0, .slice none 0 0, .slice none 0 0, .slice none 0 0, .int .i64 0] 35 + (Mine 3 1 (.slice none 0 0) 0 [] + (Mine 29 1 (.slice none 0 0) 0 [] + (blk b1 (cv c) 28 + (blk b2 [.int .i64 0, .int .i64 0, .int .i64 0, .int .i64 0, .int .i64 0, .int .i64 0, .slice none 0 0, .slice none 0 0, .slice none 0 0, .slice none 0 0, .slice none 0 0, .slice none 0 0, .slice none 0 0, .int .i64 0] 35 + (X1 + (X0 + H)))))))
    rw [Mine.nil, Mine.nil, HProp.emp_add, HProp.emp_add]
    exact Ent.auto
  rintro ⟨k, ⟨ac, kc⟩, ⟨aw, kw⟩⟩ f2 hk4
  simp only at hk4
  simp only [putAll]
  by_cases hlt : k < 4
  · refine walk ?_
    refine s_buildInts (cs := [.int _ _]) rfl rfl rfl rfl rfl ?_
    intro n1
    refine walk ?_
    refine s_append (v := .slice ac _ _) rfl rfl (Rd.blk0 (m := 1) (e := 3) rfl (by simp [maxLen])) rfl rfl ?_ rfl ?_
    · simp only [maxLen]; omega
    intro v'
    refine WPL.shape ?_
    rintro w1 j1 rfl _ _ _
    refine walk ?_
    refine s_store (v := .slice _ _ _) (cs' := [_, _, _, _, _, _, _, _, _, _, _, _, _, _]) rfl rfl rfl (by simp) rfl ?_
    refine walk ?_
    refine s_buildInts (cs := [.slice none 0 0]) rfl rfl rfl rfl rfl ?_
    intro n2
    refine walk ?_
    refine s_append (v := .slice aw _ _) rfl rfl (Rd.blk0 (m := 1) (e := 29) rfl (by simp [maxLen])) rfl rfl ?_ rfl ?_
    · simp only [maxLen]; omega
    intro v'
    refine WPL.shape ?_
    rintro w2 j2 rfl _ _ _
    refine walk ?_
    refine s_store (v := .slice _ _ _) (cs' := [_, _, _, _, _, _, _, _, _, _, _, _, _, _]) rfl rfl rfl (by simp) rfl ?_
    refine walk ?_
    refine ⟨(k + 1, (w1, j1), (w2, j2)), asided, agreed, ?_, hlt, by simp only; omega⟩
    simp only [List.replicate_succ', zs_push]
    exact Ent.auto
  obtain rfl : k = 4 := by omega
  refine walk ?_
  refine wp_loopF (α := Nat × (Option Addr × Nat)) [5, 36, 37, 38, 39, 40, 41, 42, 43, 44, 45, 46, 47] (fun z => [(5, .int .i64 z.1)])
    (fun z => blk b3 [.int .i64 c.n, .int .i64 c.q, .int .i64 c.g, .int .i64 c.m, .int .i64 c.t, .int .i64 c.s, .slice t1.o1 ((Tab.new g).make.2.2).all.length t1.k1, .slice t1.o2 ((Tab.new g).make.2.2).all.length t1.k2, .slice t1.o3 ((Tab.new g).make.2.2).row.length t1.k3, .slice ac 4 kc, .slice aw 4 kw, .slice z.2.1 z.1 z.2.2, .slice none 0 0, .int .i64 0] 35 + (Mine 86 4 (.slice z.2.1 z.1 z.2.2) z.1 (mcs (List.replicate z.1 restR)) + (Mine 3 1 (.slice ac 4 kc) 4 (zs (List.replicate 4 c.s)) + (Mine 29 1 (.slice aw 4 kw) 4 (List.replicate 4 (.slice none 0 0)) + (blk b1 (cv c) 28 + (blk b2 [.int .i64 0, .int .i64 0, .int .i64 0, .int .i64 0, .int .i64 0, .int .i64 0, .slice none 0 0, .slice none 0 0, .slice none 0 0, .slice none 0 0, .slice none 0 0, .slice none 0 0, .slice none 0 0, .int .i64 0] 35 + (X1 + (X0 + H))))))))
    (fun z => z.1 ≤ m) (fun z => m - z.1) (0, (none, 0)) agreed ?_ (Nat.zero_le _) ?_
  · show Ent _ (blk b3 [.int .i64 c.n, .int .i64 c.q, .int .i64 c.g, .int .i64 c.m, .int .i64 c.t, .int .i64 c.s, .slice t1.o1 ((Tab.new g).make.2.2).all.length t1.k1, .slice t1.o2 ((Tab.new g).make.2.2).all.length t1.k2, .slice t1.o3 ((Tab.new g).make.2.2).row.length t1.k3, .slice ac 4 kc, .slice aw 4 kw, .slice none 0 0, .slice none 0 0, .int .i64 0] 35 + (Mine 86 4 (.slice none 0 0) 0 [] + (Mine 3 1 (.slice ac 4 kc) 4 (zs (List.replicate 4 c.s)) + (Mine 29 1 (.slice aw 4 kw) 4 (List.replicate 4 (.slice none 0 0)) + (blk b1 (cv c) 28 + (blk b2 [.int .i64 0, .int .i64 0, .int .i64 0, .int .i64 0, .int .i64 0, .int .i64 0, .slice none 0 0, .slice none 0 0, .slice none 0 0, .slice none 0 0, .slice none 0 0, .slice none 0 0, .slice none 0 0, .int .i64 0] 35 + (X1 + (X0 + H))))))))
    rw [Mine.nil, HProp.emp_add]
    exact Ent.auto
  rintro ⟨k, ⟨am, km⟩⟩ f3 hkm
  simp only at hkm
  simp only [putAll]
  by_cases hlt : k < m
  · refine walk ?_
    refine s_build (cs := mcC restR) (by kernel_rfl) rfl ?_
    refine s_buildSlice (cs := mcC restR) rfl ?_ rfl ?_
    · kernel_rfl
    intro n1
    refine walk ?_
    refine s_append (v := .slice am _ _) rfl rfl (Rd.blk0 (m := 1) (sz := 4) (e := 86) rfl (by simp [maxLen])) rfl rfl ?_ rfl ?_
    · simp only [maxLen]; omega
    intro v'
    refine WPL.shape ?_
    rintro w1 j1 rfl _ _ _
    refine walk ?_
    refine s_store (v := .slice _ _ _) (cs' := [_, _, _, _, _, _, _, _, _, _, _, _, _, _]) rfl rfl rfl (by simp) rfl ?_
    refine walk ?_
    refine ⟨(k + 1, (w1, j1)), asided, agreed, ?_, hlt, by simp only; omega⟩
    simp only [List.replicate_succ', mcs_push]
    exact Ent.auto
  obtain rfl : k = m := by omega
  refine walk ?_
  refine wp_loopF (α := Nat × (Option Addr × Nat)) [6, 48, 49, 50, 51, 52, 53, 54, 55, 56, 57, 58] (fun z => [(6, .int .i64 z.1)])
    (fun z => blk b3 [.int .i64 c.n, .int .i64 c.q, .int .i64 c.g, .int .i64 c.m, .int .i64 c.t, .int .i64 c.s, .slice t1.o1 ((Tab.new g).make.2.2).all.length t1.k1, .slice t1.o2 ((Tab.new g).make.2.2).all.length t1.k2, .slice t1.o3 ((Tab.new g).make.2.2).row.length t1.k3, .slice ac 4 kc, .slice aw 4 kw, .slice am k km, .slice z.2.1 z.1 z.2.2, .int .i64 0] 35 + (Mine 3 1 (.slice z.2.1 z.1 z.2.2) z.1 (zs (List.replicate z.1 (-1))) + (Mine 86 4 (.slice am k km) k (mcs (List.replicate k restR)) + (Mine 3 1 (.slice ac 4 kc) 4 (zs (List.replicate 4 c.s)) + (Mine 29 1 (.slice aw 4 kw) 4 (List.replicate 4 (.slice none 0 0)) + (blk b1 (cv c) 28 + (blk b2 [.int .i64 0, .int .i64 0, .int .i64 0, .int .i64 0, .int .i64 0, .int .i64 0, .slice none 0 0, .slice none 0 0, .slice none 0 0, .slice none 0 0, .slice none 0 0, .slice none 0 0, .slice none 0 0, .int .i64 0] 35 + (X1 + (X0 + H)))))))))
    (fun z => z.1 ≤ n) (fun z => n - z.1) (0, (none, 0)) agreed ?_ (Nat.zero_le _) ?_
  · show Ent _ (blk b3 [.int .i64 c.n, .int .i64 c.q, .int .i64 c.g, .int .i64 c.m, .int .i64 c.t, .int .i64 c.s, .slice t1.o1 ((Tab.new g).make.2.2).all.length t1.k1, .slice t1.o2 ((Tab.new g).make.2.2).all.length t1.k2, .slice t1.o3 ((Tab.new g).make.2.2).row.length t1.k3, .slice ac 4 kc, .slice aw 4 kw, .slice am k km, .slice none 0 0, .int .i64 0] 35 + (Mine 3 1 (.slice none 0 0) 0 [] + (Mine 86 4 (.slice am k km) k (mcs (List.replicate k restR)) + (Mine 3 1 (.slice ac 4 kc) 4 (zs (List.replicate 4 c.s)) + (Mine 29 1 (.slice aw 4 kw) 4 (List.replicate 4 (.slice none 0 0)) + (blk b1 (cv c) 28 + (blk b2 [.int .i64 0, .int .i64 0, .int .i64 0, .int .i64 0, .int .i64 0, .int .i64 0, .slice none 0 0, .slice none 0 0, .slice none 0 0, .slice none 0 0, .slice none 0 0, .slice none 0 0, .slice none 0 0, .int .i64 0] 35 + (X1 + (X0 + H)))))))))
    rw [Mine.nil, HProp.emp_add]
    exact Ent.auto
  rintro ⟨j, ⟨ap, kp⟩⟩ f4 hjn
  simp only at hjn
  simp only [putAll]
  by_cases hlt : j < n
  · refine walk ?_
    refine s_buildInts (cs := [.int .i64 (-1)]) rfl rfl rfl rfl rfl ?_
    intro n1
    refine walk ?_
    refine s_append (v := .slice ap _ _) rfl rfl (Rd.blk0 (m := 1) (e := 3) rfl (by simp [maxLen])) rfl rfl ?_ rfl ?_
    · simp only [maxLen]; omega
    intro v'
    refine WPL.shape ?_
    rintro w1 j1 rfl _ _ _
    refine walk ?_
    refine s_store (v := .slice _ _ _) (cs' := [_, _, _, _, _, _, _, _, _, _, _, _, _, _]) rfl rfl rfl (by simp) rfl ?_
    refine walk ?_
    refine ⟨(j + 1, (w1, j1)), asided, agreed, ?_, hlt, by simp only; omega⟩
    simp only [List.replicate_succ', zs_push]
    exact Ent.auto
  obtain rfl : j = n := by omega
  refine WP.split (Mine 3 1 (.slice ap j kp) j (zs (List.replicate j (-1)))) (WP.open (by omega) ?_)
  rintro bp sp rfl hsp
  refine WP.split (Mine 86 4 (.slice am k km) k (mcs (List.replicate k restR))) (WP.open (by omega) ?_)
  rintro bm sm rfl hsm
  refine WP.split (Mine 29 1 (.slice aw 4 kw) 4 (List.replicate 4 (.slice none 0 0))) (WP.open (by omega) ?_)
  rintro bw sw rfl hsw
  refine WP.split (Mine 3 1 (.slice ac 4 kc) 4 (zs (List.replicate 4 c.s))) (WP.open (by omega) ?_)
  rintro bc sc rfl hsc
  refine walk ?_
  refine s_build (cs := [.int .i64 1, .int .i64 0, .int .i64 (-1), .int .i64 (-1)]) (by kernel_rfl) rfl ?_
  refine walk ?_
  (apply s_indexAddr (j := 0) (o' := 0); (· exact rfl); (· exact rfl); (· omega); (· omega); (· omega); (· exact rfl))
  refine walk ?_
  refine s_storeA (vs := mcC ⟨1, 0, -1, -1⟩) (cs' := mcs ((List.replicate k restR).modify 0 fun x => { x with a := 1, p := 0, g := -1 }) ++ sm) rfl rfl rfl rfl ?_ (first_set k (by omega) sm) ?_
  · show 0 + 4 ≤ _; simp only [List.length_append, mcs_len, List.length_replicate]; omega
  refine walk ?_
  (apply s_indexAddr (j := 0) (o' := 0); (· exact rfl); (· exact rfl); (· omega); (· omega); (· omega); (· exact rfl))
  refine walk ?_
  refine s_store (v := .int .i64 0) (cs' := zs ((List.replicate j (-1)).set 0 0) ++ sp) rfl rfl rfl ?_ (by rw [List.set_append_left _ _ (by rw [zs_length, List.length_replicate]; omega), zs_set]) ?_
  · simp only [List.length_append, zs_length, List.length_replicate]; omega
  refine walk ?_
  refine s_storeV (vs := [.int .i64 c.n, .int .i64 c.q, .int .i64 c.g, .int .i64 c.m, .int .i64 c.t, .int .i64 c.s, .slice t1.o1 ((Tab.new g).make.2.2).all.length t1.k1, .slice t1.o2 ((Tab.new g).make.2.2).all.length t1.k2, .slice t1.o3 ((Tab.new g).make.2.2).row.length t1.k3, .slice (some ⟨bc, 0, none⟩) 4 kc, .slice (some ⟨bw, 0, none⟩) 4 kw, .slice (some ⟨bm, 0, none⟩) k km, .slice (some ⟨bp, 0, none⟩) j kp, .int .i64 0]) rfl rfl rfl rfl rfl ?_
  refine walk ?_
  have hJ : newJ c = ⟨c, (Tab.new g).make.2.2, newS 4 c.s, (List.replicate k restR).modify 0 (fun x => { x with a := 1, p := 0, g := -1 }), (List.replicate j (-1)).set 0 0, 0⟩ := by
    have e1 : c.m.toNat = k := by omega
    have e2 : c.n.toNat = j := by omega
    have e3 : c.g.toNat = g := by omega
    unfold newJ newJ0 newI0 Ide.has
    rw [e1, e2, e3]
    rfl
  rw [hJ]
  have key := fun (H0 : HProp) => own_fin (B := B) (H0 := H0) (G := emp) (H := H) (J := ⟨c, (Tab.new g).make.2.2, newS 4 c.s, (List.replicate k restR).modify 0 (fun x => { x with a := 1, p := 0, g := -1 }), (List.replicate j (-1)).set 0 0, 0⟩) (t := t1) (bc := bc) (kc := kc) (bw := bw) (kw := kw) (bm := bm) (km := km) (bp := bp) (kp := kp) (sc := sc) (sw := sw) (sm := sm) (sp := sp) (ws := List.replicate 4 (.slice none 0 0)) (cn := zs (List.replicate 4 c.s)) (X := X1 + X0)
    (r := .agg (List.toArray [.int .i64 c.n, .int .i64 c.q, .int .i64 c.g, .int .i64 c.m, .int .i64 c.t, .int .i64 c.s, .slice t1.o1 ((Tab.new g).make.2.2).all.length t1.k1, .slice t1.o2 ((Tab.new g).make.2.2).all.length t1.k2, .slice t1.o3 ((Tab.new g).make.2.2).row.length t1.k3, .slice (some ⟨bc, 0, none⟩) 4 kc, .slice (some ⟨bw, 0, none⟩) 4 kw, .slice (some ⟨bm, 0, none⟩) k km, .slice (some ⟨bp, 0, none⟩) j kp, .int .i64 0])) rfl
    (by simp only [rfV, rfC, List.length_modify, List.length_set, List.length_replicate])
  refine retR1 (.inr rfl) rfl (rv_cellA rfl Cells.blk0 rfl) ?_
  refine own_emp (key _ ?_ ?_ ?_ rfl ?_ ?_ ?_)
  · simp only [HProp.add_assoc]; exact Ent.auto
  · rw [HProp.add_emp]; exact hT
  · rfl
  · show (List.modify _ _ _).length ≤ _; rw [List.length_modify, List.length_replicate]; simp only [maxLen]; omega
  · show (List.set _ _ _).length ≤ _; rw [List.length_set, List.length_replicate]; simp only [maxLen]; omega
  · intro i l c' hi
    have hi : (List.replicate 4 (([] : List Int), c.s))[i]? = some (l, c') := hi
    rw [List.getElem?_replicate] at hi
    split at hi
    · rename_i h4
      cases hi
      exact ⟨none, 0, by rw [List.getElem?_replicate, if_pos h4]; rfl, Rd.nil⟩
    · cases hi
end
end Go.Proofs.YtlhnmbajbhaaoaaGreat
namespace Go.Proofs.YtlhnmbajbhaaoaaGreat
open Go Go.SL
set_option linter.unusedSimpArgs false
set_option linter.unusedVariables false
set_option maxRecDepth 10000
set_option maxHeartbeats 4000000
theorem nvs_push (l : List Nt) (n : Nt) : nvs (l ++ [n]) = nvs l ++ nv n := by rw [nvs_app]; simp [nvs]
attribute [local irreducible] WP WPL QSeq QBlk QRet Does Cell Cells Rd Mine Ent Aside RV Yield TabAt SemAt IdeAt
section
variable {B : World} {H F G : HProp} {J : Ide} {a : RA} {n : Nt} {K : Int} {cnt : List Int} {c : Cfg} {l : List Nt} {s : Value}
theorem dConfig : Does Tryz.prog B 11 [cfgV c] H fun r H' => H' = H ∧ r = cfgV c := by
  refine Does.frame0 ?_
  refine fn_intro 16 Tryz.func11 rfl rfl rfl ?_
  refine walk ?_
  refine s_box (cs := cv c) rfl rfl rfl ?_
  intro b1
  refine s_alloc rfl ?_
  intro b2
  refine walk ?_
  (refine s_build (cs := (cv c)) ?_ rfl ?_; (· kernel_rfl))
  refine walk ?_
  refine s_storeV (vs := (cv c)) rfl rfl rfl rfl rfl ?_
  refine walk ?_
  exact retR1 (.inr rfl) rfl (rv_cellA rfl Cells.blk0 rfl) ⟨Ent.auto, rfl⟩
theorem dNote : Does Tryz.prog B 21 [noteV n] H fun r H' => H' = H ∧ r = noteV n := by
  refine Does.frame0 ?_
  refine fn_intro 14 Tryz.func21 rfl rfl rfl ?_
  refine walk ?_
  refine s_box (cs := nv n) rfl rfl rfl ?_
  intro b1
  refine s_alloc rfl ?_
  intro b2
  refine walk ?_
  (refine s_build (cs := (nv n)) ?_ rfl ?_; (· kernel_rfl))
  refine walk ?_
  refine s_storeV (vs := (nv n)) rfl rfl rfl rfl rfl ?_
  refine walk ?_
  exact retR1 (.inr rfl) rfl (rv_cellA rfl Cells.blk0 rfl) ⟨Ent.auto, rfl⟩
theorem dNotes (hs : Rd B H 5 s l.length (nvs l)) (hl : l.length ≤ 1000) : Does Tryz.prog B 38 [s] H fun r H' => ∃ X, H' = X + H ∧ Rd B X 5 r l.length (nvs l) := by
  unfold Rd at hs
  obtain ⟨ao, cap, rfl, hln, hm, hc⟩ := hs
  refine Does.weak (R := fun r H' => ∃ X, Ent H' (X + H) ∧ Rd B X 5 r l.length (nvs l)) ?_ fun v H1 ⟨X, h1, h2⟩ => ⟨_, h1, X, rfl, h2⟩
  refine fn_intro 20 Tryz.func38 rfl rfl rfl ?_
  refine walk ?_
  refine wp_loopF (α := Nat × (Option Addr × Nat)) [3, 4, 5, 6, 7, 8, 9, 10, 11, 12, 13, 14, 15, 16, 17, 18] (fun z => [(3, .slice z.2.1 z.1 z.2.2), (4, .int .i64 z.1)])
    (fun z => Mine 57 5 (.slice z.2.1 z.1 z.2.2) z.1 (nvs (l.take z.1)) + H)
    (fun z => z.1 ≤ l.length) (fun z => l.length - z.1) (0, (none, 0)) agreed ?_ (Nat.zero_le _) ?_
  · show Ent _ (Mine 57 5 (.slice none 0 0) 0 [] + H)
    rw [Mine.nil, HProp.emp_add]
    exact Ent.refl _
  rintro ⟨k, ⟨am, km⟩⟩ f hk
  simp only at hk
  simp only [putAll]
  by_cases hlt : k < l.length
  · obtain ⟨bs, os, rfl, hcs⟩ : ∃ b o, ao = some ⟨b, o, none⟩ ∧ Cells B H b o (nvs l) := by
      rcases hc with h | ⟨b, o, h1, h2⟩
      · rw [h] at hln; simp at hln; omega
      · exact ⟨b, o, h1, h2⟩
    have hcell := nvs_cells hcs hlt
    refine walk ?_
    refine s_call rfl (dNote) rfl ?_
    rintro _ _ ⟨e_, rfl⟩
    obtain rfl := e_.symm
    refine walk ?_
    refine walk ?_
    refine s_buildSlice (cs := nv l[k]) rfl ?_ rfl ?_
    · kernel_rfl
    intro n1
    refine walk ?_
    refine s_append (v := .slice am _ _) rfl rfl (Rd.blk0 (m := 1) (sz := 5) (e := 57) rfl (by simp [maxLen])) rfl rfl ?_ rfl ?_
    · simp only [maxLen]; omega
    intro v'
    refine WPL.shape ?_
    rintro w1 j1 rfl _ _ _
    refine walk ?_
    refine ⟨(k + 1, (w1, j1)), asided, agreed, ?_, hlt, by simp only; omega⟩
    simp only
    rw [List.take_add_one, List.getElem?_eq_getElem hlt, Option.toList_some, nvs_push]
    exact Ent.auto
  · obtain rfl : k = l.length := by omega
    rw [List.take_length]
    refine WP.split (Mine 57 5 (.slice am l.length km) l.length (nvs l)) (WP.rd fun rdN => ?_)
    refine walk ?_
    exact retR1 (.inr rfl) rfl (rv_tmp rfl) ⟨Mine 57 5 (.slice am l.length km) l.length (nvs l), Ent.refl _, rdN⟩
theorem dNotes27 (hs : Rd B H 5 s l.length (nvs l)) (hl : l.length ≤ 1000) : Does Tryz.prog B 12 [s] H fun r H' => ∃ X, H' = X + H ∧ Rd B X 5 r l.length (nvs l) := by
  have hs' := hs
  unfold Rd at hs'
  obtain ⟨ao, cap, rfl, hln, hm, hc⟩ := hs'
  refine fn_intro 5 Tryz.func12 rfl rfl rfl ?_
  refine walk ?_
  refine s_call rfl (dNotes hs hl) rfl ?_
  rintro v _ ⟨X, rfl, hX⟩
  have hX' := hX
  unfold Rd at hX'
  obtain ⟨ao', cap', rfl, _⟩ := hX'
  refine walk ?_
  exact retR1 (.inr rfl) rfl (rv_tmp rfl) ⟨X, rfl, hX⟩
end
end Go.Proofs.YtlhnmbajbhaaoaaGreat
namespace Go.Proofs.YtlhnmbajbhaaoaaGreat
open Go Go.SL
set_option linter.unusedSimpArgs false
set_option linter.unusedVariables false
set_option maxRecDepth 10000
set_option maxHeartbeats 4000000
attribute [local irreducible] WP WPL QSeq QBlk QRet Does Cell Cells Rd Mine Ent Aside RV Yield TabAt SemAt IdeAt
section
variable {B : World} {H F G : HProp} {J : Ide} {a : RA} {n : Nt} {K : Int} {cnt : List Int} {c : Cfg} {l : List Nt} {s : Value} {x : Nat} {L : IdL}
theorem sim_stat (h : Sim L.I J) {g : Nat} (hg : g < J.tab.all.length) : L.I.stat g = J.tab.all[g].1 ∧ g < L.I.tab.all.length := by
  unfold Ide.stat
  rw [h.tab, if_pos (by omega), Int.toNat_natCast, List.getElem?_eq_getElem hg]
  exact ⟨rfl, hg⟩
theorem sameIdeal [i : HasAt IdeAt H x L F] (hr : RI B F J a) (hs : Sim L.I J) (ok : L.I.ok K) (hK : K ≤ 90000) (inv : Inv L.I cnt) : Does Tryz.prog B 14 [ptr x, rfV J a] H fun r H' => H' = H ∧ r = .bool true := by
  have okJ := hs.ok ok
  have hml := okJ.ml
  have hpl := okJ.pl
  have htl := okJ.tl
  have hsl := okJ.sl
  have hml' := ok.ml
  have hpl' := ok.pl
  have htl' := ok.tl
  have hcc := okJ.c
  obtain ⟨_, c1, c2, c3, c4, c5, c6, _⟩ := hcc
  have hcE := hs.c
  have hsE := hs.sem
  have hLO : LOk L.I.sem := rowS_all ok.sk (by omega)
  rw [i.eq]
  refine Does.frame0 ?_
  obtain ⟨⟨o1_, k1_, o2_, k2_, o3_, k3_⟩, oc_, kc_, ow_, kw_, om_, km_, op_, kp_, ws_⟩ := a
  refine fn_intro 151 Tryz.func14 rfl rfl rfl ?_
  refine walk ?_
  refine s_box (cs := rfC J ⟨⟨o1_, k1_, o2_, k2_, o3_, k3_⟩, oc_, kc_, ow_, kw_, om_, km_, op_, kp_, ws_⟩) rfl rfl rfl ?_
  intro b3
  refine walk ?_
  refine wp_loopF (α := Nat) [4, 5, 6, 7, 15, 16, 17, 18, 19, 20, 21, 22, 23, 24, 25, 26, 27, 28, 29, 30, 31, 32, 33, 34, 35, 36, 37, 38, 39] (fun z => [(5, .int .i64 (z : Nat))]) (fun z => blk b3 (rfC J ⟨⟨o1_, k1_, o2_, k2_, o3_, k3_⟩, oc_, kc_, ow_, kw_, om_, km_, op_, kp_, ws_⟩) 35 + (IdeAt x L + F))
    (fun z => z ≤ J.tab.all.length) (fun z => J.tab.all.length - z) 0 agreed Ent.auto (Nat.zero_le _) ?_
  rintro k f hk
  simp only [putAll]
  by_cases hlt : k < J.tab.all.length
  · obtain ⟨b, o, e, hc⟩ := hr.stA hlt
    simp only at e
    subst e
    obtain ⟨e1, e2⟩ := sim_stat hs hlt
    refine walk ?_
    refine s_call rfl (iStatus (x := x) (L := L) (g := (k : Int))) rfl ?_
    rintro _ _ ⟨e_, rfl⟩
    obtain rfl := e_.symm
    rw [e1, decide_eq_true (show 0 ≤ (k : Int) ∧ (k : Int) < L.I.tab.all.length by omega)]
    refine walk ?_
    exact ⟨k + 1, asided, agreed, Ent.refl _, hlt, by omega⟩
  obtain rfl : k = J.tab.all.length := by omega
  refine walk ?_
  refine wp_loopF (α := Nat) [4, 8, 9, 10, 40, 41, 42, 43, 44, 45, 46, 47, 48, 49, 50, 51, 52, 53, 54, 55, 56, 57, 58, 59, 60, 61, 62, 63, 64, 65, 66, 67, 68, 69, 70, 71, 72, 73, 74] (fun z => [(8, .int .i64 (z : Nat))]) (fun z => blk b3 (rfC J ⟨⟨o1_, k1_, o2_, k2_, o3_, k3_⟩, oc_, kc_, ow_, kw_, om_, km_, op_, kp_, ws_⟩) 35 + (IdeAt x L + F))
    (fun z => z ≤ 4) (fun z => 4 - z) 0 agreed (Ent.refl _) (Nat.zero_le _) ?_
  rintro k f2 hk
  simp only [putAll]
  by_cases hlt : k < 4
  · obtain ⟨l, c, hj⟩ : ∃ l c, J.sem[k]? = some (l, c) := ⟨(J.sem[k]'(by omega)).1, (J.sem[k]'(by omega)).2, by rw [List.getElem?_eq_getElem (by omega)]⟩
    obtain ⟨bc, oc, ec, cc⟩ := hr.cnA hj
    obtain ⟨bw, ow, o2, k2, ew, cw, rw_⟩ := hr.wtA hj
    simp only at ec ew
    subst ec ew
    have hlK := okJ.sk k l c hj
    have hj' : L.I.sem[k]? = some (l, c) := by rw [hsE]; exact hj
    obtain ⟨s1, s2, s3, s4, s5⟩ := inv.se k l c hj'
    have hrow : rowS L.I.sem (k : Int) = l := by unfold rowS; rw [if_pos (by omega), Int.toNat_natCast, hj']; rfl
    have hcount : max 0 (L.I.count (k : Int)) = c := by unfold Ide.count; rw [if_pos (by omega), Int.toNat_natCast, hj']; simp; omega
    refine walk ?_
    refine s_call rfl (iWaits (x := x) (L := L) (s := (k : Int)) hLO) rfl ?_
    rintro v _ rfl
    rw [hrow]
    refine WPL.shape ?_
    rintro a9 c9 rfl _ _ _
    refine WPL.rd fun rd9 => ?_
    refine walk ?_
    (refine wp_draw [2, 16] (.look 0 (.look 1 (.look 3 (.look 4 (.look 5 (.look 6 (.look 7 (.act 2 (.look 8 (.look 9 (.look 10 (.look 11 (.look 12 (.look 13 (.look 14 (.look 15 (.act 16 (.look 17 (.look 18 .nil)) .stop))))))))) .stop)))))))) (by kernel_rfl) ?_; refine dwP ?_; refine dwP ?_; refine dwP ?_; refine dwL ?_; refine dwP ?_; (apply dw_pure; (· exact rfl); (· exact rfl); (· (intro G; (first | (apply s_indexAddr (j := k) (o' := oc + k); (· exact rfl); (· exact rfl); (· omega); (· omega); (· omega); (· exact rfl)) | skip); exact looked))); refine dwL ?_; skip)
    refine dw_do rfl rfl ?_ dw_stop
    refine s_call rfl (iCountX (x := x) (L := L) (s := (k : Int))) rfl ?_
    rintro _ _ ⟨e_, rfl⟩
    obtain rfl := e_.symm
    rw [hcount]
    refine wpl_nil (qone ⟨(by (refine st_again ?_ ?_; (· exact looked)); (refine st_again ?_ ?_; (· exact looked)); exact st_nil), ?_⟩)
    (refine dwP ?_; refine dwP ?_; refine dwP ?_; refine dwP ?_; refine dwL ?_; refine dwP ?_; (apply dw_pure; (· exact rfl); (· exact rfl); (· (intro G; (first | (refine step_wanted rfl rfl ?_; (apply s_indexAddr (j := k) (o' := ow + k); (· exact rfl); (· exact rfl); (· omega); (· omega); (· omega); (· exact rfl))) | (apply s_indexAddr (j := k) (o' := ow + k); (· exact rfl); (· exact rfl); (· omega); (· omega); (· omega); (· exact rfl)) | skip); exact looked))); refine dwL ?_; skip)
    refine dw_do rfl rfl ?_ dw_stop
    refine step_wanted rfl rfl ?_
    refine s_call rfl (sameInts_spec (rd9.ent InH.ent) (rw_.ent InH.ent)) rfl ?_
    rintro _ _ ⟨e_, rfl⟩
    obtain rfl := e_.symm
    rw [decide_eq_true rfl]
    refine wpl_nil (qone ⟨(by refine st_past (by kernel_rfl) ?_; refine st_past (by kernel_rfl) ?_; refine st_past (by kernel_rfl) ?_; refine st_past (by kernel_rfl) ?_; exact st_nil), ?_⟩)
    (refine dwP ?_; refine dwP ?_; refine dw_nil ?_; skip)
    refine walk ?_
    refine wp_loopF (α := Nat × List Int) [10, 66, 67, 68, 69, 70, 71, 72, 73, 74] (fun z => [(10, .int .i64 (z.1 : Nat))]) (fun z => Mine 3 1 (.slice a9 l.length c9) l.length (zs z.2) + (blk b3 (rfC J ⟨⟨o1_, k1_, o2_, k2_, o3_, k3_⟩, some ⟨bc, oc, none⟩, kc_, some ⟨bw, ow, none⟩, kw_, om_, km_, op_, kp_, ws_⟩) 35 + (IdeAt x L + F)))
      (fun z => z.1 ≤ l.length ∧ z.2.length = l.length) (fun z => l.length - z.1) (0, l) agreed Ent.auto ⟨Nat.zero_le _, rfl⟩ ?_
    rintro ⟨j, l2⟩ f3 ⟨hjl, hl2⟩
    simp only at hjl hl2
    simp only [putAll]
    by_cases hlt2 : j < l.length
    · refine WP.shape ?_
      rintro ao9 cp9 e_ _ hc9 hm9
      cases e_
      refine WP.open (by omega) ?_
      rintro g9 sp9 rfl hsp9
      refine walk ?_
      refine s_store (v := .int .i64 77) (cs' := zs (l2.set j 77) ++ sp9) rfl rfl rfl ?_ (by rw [List.set_append_left _ _ (by rw [zs_length]; omega), zs_set]) ?_
      · simp only [List.length_append, zs_length]; omega
      refine walk ?_
      refine ⟨(j + 1, l2.set j 77), asided, agreed, ?_, ⟨hlt2, by rw [List.length_set]; exact hl2⟩, by simp only; omega⟩
      refine Ent.step (A := blk g9 (zs (l2.set j 77) ++ sp9) 3) (Mine.of_blk rfl (by rw [zs_length, List.length_set]; omega) hc9 hm9 (by rw [← hsp9]; simp [zs])) ?_
      exact Ent.auto
    · have hjE : j = l.length := by omega
      refine walk ?_
      exact ⟨k + 1, asided, agreed, Ent.auto, hlt, by omega⟩
  obtain rfl : k = 4 := by omega
  refine walk ?_
  refine wp_loopF (α := Nat) [4, 11, 12, 13, 75, 76, 77, 78, 79, 80, 81, 82, 83, 84, 85, 86, 87, 88, 89, 90, 91, 92, 93, 94, 95, 96, 97, 98, 99, 100, 101, 102, 103, 104, 105, 106, 107, 108, 109, 110, 111, 112, 113, 114, 115, 116, 117, 118, 119, 120, 121, 122] (fun z => [(11, .int .i64 (z : Nat))]) (fun z => blk b3 (rfC J ⟨⟨o1_, k1_, o2_, k2_, o3_, k3_⟩, oc_, kc_, ow_, kw_, om_, km_, op_, kp_, ws_⟩) 35 + (IdeAt x L + F))
    (fun z => z ≤ J.ms.length) (fun z => J.ms.length - z) 0 agreed (Ent.refl _) (Nat.zero_le _) ?_
  rintro k f4 hk
  simp only [putAll]
  by_cases hlt : k < J.ms.length
  · obtain ⟨bm, om, em, cm⟩ := hr.msA hlt
    simp only at em
    subst em
    have c0m : Cell B F bm (om + k * 4) (.int .i64 J.ms[k].a) := cm.cell (j := 0) rfl
    have c1m : Cell B F bm (om + k * 4 + 1) (.int .i64 J.ms[k].p) := cm.cell (j := 1) rfl
    have c2m : Cell B F bm (om + k * 4 + 2) (.int .i64 J.ms[k].g) := cm.cell (j := 2) rfl
    have hkI : k < L.I.ms.length := by rw [hs.ms.1]; exact hlt
    obtain ⟨d1, d2, d3, _⟩ := hs.ms.2 k _ _ (List.getElem?_eq_getElem hkI) (List.getElem?_eq_getElem hlt)
    have hst : stC L.I (k : Int) = [.int .i64 J.ms[k].a, .int .i64 J.ms[k].p, .int .i64 J.ms[k].g] := by
      unfold stC
      rw [if_pos (by omega)]
      unfold Ide.mAt
      rw [Int.toNat_natCast, List.getElem?_eq_getElem hkI]
      simp only [Option.getD_some]
      rw [d1, d2, d3]
    refine walk ?_
    refine s_call rfl (iM (x := x) (L := L) (m := (k : Int))) rfl ?_
    rintro _ _ ⟨e_, rfl⟩
    obtain rfl := e_.symm
    rw [hst, decide_eq_true (show 0 ≤ (k : Int) ∧ (k : Int) < L.I.ms.length by omega)]
    refine walk ?_
    refine s_alloc rfl ?_
    intro b12
    refine walk ?_
    refine s_storeV (vs := [.int .i64 J.ms[k].a, .int .i64 J.ms[k].p, .int .i64 J.ms[k].g]) rfl rfl rfl rfl rfl ?_
    refine walk ?_
    (refine wp_draw [] (.look 0 (.look 1 (.look 2 (.look 3 (.look 4 (.look 5 (.look 6 (.look 7 (.look 8 (.look 9 (.look 10 (.look 11 (.look 12 (.look 13 (.look 14 (.look 15 (.look 16 (.look 17 (.look 18 (.look 19 (.look 20 (.look 21 (.look 22 (.look 23 (.look 24 (.look 25 (.look 26 (.look 27 (.look 28 (.look 29 (.look 30 (.look 31 (.look 32 (.look 33 (.look 34 .nil))))))))))))))))))))))))))))))))))) (by kernel_rfl) ?_; refine dwP ?_; refine dwL ?_; refine dwP ?_; refine dwL ?_; refine dwP ?_; (apply dw_pure; (· exact rfl); (· exact rfl); (· (intro G; (first | (refine step_wanted rfl rfl ?_; (apply s_indexAddr (j := k) (o' := om + k * 4); (· exact rfl); (· exact rfl); (· omega); (· omega); (· omega); (· exact rfl))) | (apply s_indexAddr (j := k) (o' := om + k * 4); (· exact rfl); (· exact rfl); (· omega); (· omega); (· omega); (· exact rfl)) | skip); exact looked))); refine dwP ?_; refine dwL ?_; refine dwP ?_; refine dwP ?_; refine dwP ?_; refine dwL ?_; refine dwP ?_; refine dwL ?_; refine dwP ?_; (apply dw_pure; (· exact rfl); (· exact rfl); (· (intro G; (first | (refine step_wanted rfl rfl ?_; (apply s_indexAddr (j := k) (o' := om + k * 4); (· exact rfl); (· exact rfl); (· omega); (· omega); (· omega); (· exact rfl))) | (apply s_indexAddr (j := k) (o' := om + k * 4); (· exact rfl); (· exact rfl); (· omega); (· omega); (· omega); (· exact rfl)) | skip); exact looked))); refine dwP ?_; refine dwL ?_; refine dwP ?_; refine dwP ?_; refine dwP ?_; refine dwP ?_; refine dwL ?_; refine dwP ?_; refine dwL ?_; refine dwP ?_; (apply dw_pure; (· exact rfl); (· exact rfl); (· (intro G; (first | (refine step_wanted rfl rfl ?_; (apply s_indexAddr (j := k) (o' := om + k * 4); (· exact rfl); (· exact rfl); (· omega); (· omega); (· omega); (· exact rfl))) | (apply s_indexAddr (j := k) (o' := om + k * 4); (· exact rfl); (· exact rfl); (· omega); (· omega); (· omega); (· exact rfl)) | skip); exact looked))); refine dwP ?_; refine dwL ?_; refine dwP ?_; refine dwP ?_; refine dwP ?_; refine dwP ?_; refine dwP ?_; refine dwP ?_; refine dw_nil ?_)
    refine walk ?_
    exact ⟨k + 1, asided, agreed, Ent.auto, hlt, by omega⟩
  obtain rfl : k = J.ms.length := by omega
  refine walk ?_
  refine wp_loopF (α := Nat) [4, 14, 123, 124, 125, 126, 127, 128, 129, 130, 131, 132, 133, 134, 135, 136, 137, 138] (fun z => [(14, .int .i64 (z : Nat))]) (fun z => blk b3 (rfC J ⟨⟨o1_, k1_, o2_, k2_, o3_, k3_⟩, oc_, kc_, ow_, kw_, om_, km_, op_, kp_, ws_⟩) 35 + (IdeAt x L + F))
    (fun z => z ≤ J.ps.length) (fun z => J.ps.length - z) 0 agreed (Ent.refl _) (Nat.zero_le _) ?_
  rintro k f5 hk
  simp only [putAll]
  by_cases hlt : k < J.ps.length
  · obtain ⟨bp, op, ep, cp⟩ := hr.psA hlt
    simp only at ep
    subst ep
    have hpv : (if 0 ≤ (k : Int) ∧ (k : Int) < L.I.ps.length then L.I.pAt (k : Int) else -3) = J.ps[k] := by
      unfold Ide.pAt
      rw [hs.ps, if_pos (by omega), Int.toNat_natCast, List.getElem?_eq_getElem hlt]; rfl
    refine walk ?_
    (refine wp_draw [2] (.look 0 (.look 1 (.look 3 (.look 4 (.look 5 (.look 6 (.look 7 (.act 2 (.look 8 .nil) .stop)))))))) (by kernel_rfl) ?_; refine dwP ?_; refine dwP ?_; refine dwP ?_; refine dwL ?_; refine dwP ?_; (apply dw_pure; (· exact rfl); (· exact rfl); (· (intro G; (first | (apply s_indexAddr (j := k) (o' := op + k); (· exact rfl); (· exact rfl); (· omega); (· omega); (· omega); (· exact rfl)) | skip); exact looked))); refine dwL ?_; skip)
    refine dw_do rfl rfl ?_ dw_stop
    refine s_call rfl (iP (x := x) (L := L) (p := (k : Int))) rfl ?_
    rintro _ _ ⟨e_, rfl⟩
    obtain rfl := e_.symm
    rw [hpv]
    refine wpl_nil (qone ⟨(by (refine st_again ?_ ?_; (· exact looked)); (refine st_again ?_ ?_; (· exact looked)); exact st_nil), ?_⟩)
    (refine dwP ?_; refine dw_nil ?_; skip)
    refine walk ?_
    exact ⟨k + 1, asided, agreed, Ent.auto, hlt, by omega⟩
  obtain rfl : k = J.ps.length := by omega
  have hmE : L.I.many = J.many := hs.many
  have hcE2 : (L.I.callers : Int) = (J.callers : Int) := by have := hs.ms.callers; unfold Ide.callers; rw [this]
  refine walk ?_
  (refine wp_draw [1, 7, 9] (.look 0 (.look 2 (.look 3 (.act 1 (.look 4 (.look 5 (.look 6 (.look 8 (.act 7 (.act 9 (.look 10 (.look 11 (.look 12 .nil))) .stop) .stop))))) .stop)))) (by kernel_rfl) ?_; refine dwP ?_; refine dwP ?_; refine dwL ?_; skip)
  refine dw_do rfl rfl ?_ dw_stop
  refine s_call rfl (iLen (x := x) (L := L)) rfl ?_
  rintro _ _ ⟨e_, rfl⟩
  obtain rfl := e_.symm
  rw [hmE]
  refine wpl_nil (qone ⟨(by (refine st_again ?_ ?_; (· exact looked)); exact st_nil), ?_⟩)
  (refine dwP ?_; refine dwP ?_; refine dwP ?_; refine dwL ?_; skip)
  refine dw_do rfl rfl ?_ dw_stop
  refine step_wanted rfl rfl ?_
  refine s_call rfl (iCallers (x := x) (L := L) (by have := hs.ms.1; omega)) rfl ?_
  rintro _ _ ⟨e_, rfl⟩
  obtain rfl := e_.symm
  rw [hcE2]
  refine wpl_nil (qone ⟨(by (refine st_again ?_ ?_; (· exact looked)); refine st_past (by kernel_rfl) ?_; exact st_nil), ?_⟩)
  (skip)
  refine dw_do rfl rfl ?_ dw_stop
  refine step_wanted rfl rfl ?_
  refine s_call rfl (rCallers (J := J) (a := ⟨⟨o1_, k1_, o2_, k2_, o3_, k3_⟩, oc_, kc_, ow_, kw_, om_, km_, op_, kp_, ws_⟩) (hr.ent InH.ent) (by omega)) rfl ?_
  rintro _ _ ⟨e_, rfl⟩
  obtain rfl := e_.symm
  refine wpl_nil (qone ⟨(by refine st_past (by kernel_rfl) ?_; refine st_past (by kernel_rfl) ?_; exact st_nil), ?_⟩)
  (refine dwP ?_; refine dwP ?_; refine dwP ?_; refine dw_nil ?_; skip)
  refine walk ?_
  (first | (apply retRD1 (G := (IdeAt x L + F)) (.inr rfl) rfl; (· first | (refine rv_tmp (v := .bool _) rfl) | exact rv_tmp rfl); (· exact Ent.auto)) | (apply retRD1 (G := (IdeAt x L + F)) (.inl rfl) rfl; (· first | (refine rv_tmp (v := .bool _) rfl) | exact rv_tmp rfl); (· exact Ent.auto)))
  exact ⟨Ent.refl _, rfl⟩
end
end Go.Proofs.YtlhnmbajbhaaoaaGreat
namespace Go.Proofs.YtlhnmbajbhaaoaaGreat
open Go Go.SL
set_option linter.unusedSimpArgs false
set_option linter.unusedVariables false
set_option maxRecDepth 10000
set_option maxHeartbeats 8000000
attribute [local irreducible] WP WPL QSeq QBlk QRet Does Cell Cells Rd Mine Ent Aside RV Yield TabAt SemAt IdeAt newI newJ I6 takeI
section
variable {B : World} {H F G : HProp} {x : Nat} {L : IdL} {n : Nt} {l : List Nt} {s : Value} {c : Cfg} {i m : Int}
theorem takes_law (hs : Rd B H 5 s l.length (nvs l)) : Does Tryz.prog B 3 [cfgV c, s, .int .i64 i] H fun r H' => H' = H ∧ r = .bool true := by
  refine Does.frame0 ?_
  have hs0 := hs
  unfold Rd at hs
  obtain ⟨ao, cap, rfl, hl, hm, ha⟩ := hs
  unfold maxLen at hm
  by_cases h100 : l.length ≤ 100
  case neg =>
    refine fn_intro 141 Tryz.func3 rfl rfl rfl ?_
    refine walk ?_
    refine s_box (cs := cv c) rfl rfl rfl ?_
    intro b2
    refine walk ?_
    refine s_call rfl (works_spec) rfl ?_
    rintro _ _ ⟨e_, rfl⟩
    obtain rfl := e_.symm
    refine walk ?_
    (first | (apply retRD1 (G := H) (.inr rfl) rfl; (· first | (refine rv_tmp (v := .bool _) rfl) | exact rv_tmp rfl); (· exact Ent.auto)) | (apply retRD1 (G := H) (.inl rfl) rfl; (· first | (refine rv_tmp (v := .bool _) rfl) | exact rv_tmp rfl); (· exact Ent.auto)))
    exact ⟨Ent.refl _, rfl⟩
  by_cases h40 : c.g ≤ 40
  case neg =>
    refine fn_intro 141 Tryz.func3 rfl rfl rfl ?_
    refine walk ?_
    refine s_box (cs := cv c) rfl rfl rfl ?_
    intro b2
    refine walk ?_
    refine s_call rfl (works_spec) rfl ?_
    rintro _ _ ⟨e_, rfl⟩
    obtain rfl := e_.symm
    refine walk ?_
    (first | (apply retRD1 (G := H) (.inr rfl) rfl; (· first | (refine rv_tmp (v := .bool _) rfl) | exact rv_tmp rfl); (· exact Ent.auto)) | (apply retRD1 (G := H) (.inl rfl) rfl; (· first | (refine rv_tmp (v := .bool _) rfl) | exact rv_tmp rfl); (· exact Ent.auto)))
    exact ⟨Ent.refl _, rfl⟩
  by_cases hr : RightP c
  case neg =>
    refine fn_intro 141 Tryz.func3 rfl rfl rfl ?_
    refine walk ?_
    refine s_box (cs := cv c) rfl rfl rfl ?_
    intro b2
    refine walk ?_
    refine s_call rfl (cRight (c := c)) rfl ?_
    rintro _ _ ⟨e_, rfl⟩
    obtain rfl := e_.symm
    refine walk ?_
    rw [decide_eq_false hr]
    refine walk ?_
    refine s_call rfl (works_spec) rfl ?_
    rintro _ _ ⟨e_, rfl⟩
    obtain rfl := e_.symm
    refine walk ?_
    (first | (apply retRD1 (G := H) (.inr rfl) rfl; (· first | (refine rv_tmp (v := .bool _) rfl) | exact rv_tmp rfl); (· exact Ent.auto)) | (apply retRD1 (G := H) (.inl rfl) rfl; (· first | (refine rv_tmp (v := .bool _) rfl) | exact rv_tmp rfl); (· exact Ent.auto)))
    exact ⟨Ent.refl _, rfl⟩
  have hrp := hr
  obtain ⟨_, c1, c2, c3, c4, c5, c6, _, _, c9, c10⟩ := hrp
  refine fn_intro 141 Tryz.func3 rfl rfl rfl ?_
  refine walk ?_
  refine s_box (cs := cv c) rfl rfl rfl ?_
  intro b2
  refine walk ?_
  refine s_call rfl (cRight (c := c)) rfl ?_
  rintro _ _ ⟨e_, rfl⟩
  obtain rfl := e_.symm
  refine walk ?_
  rw [decide_eq_true hr]
  refine walk ?_
  refine s_call rfl (iNew (c := c) hr) rfl ?_
  rintro _ _ ⟨x, L, hL, rfl, rfl⟩
  refine walk ?_
  have ok0 : L.I.ok 1 := by rw [hL]; exact new_ok hr
  have in0 : Inv L.I [c.s, c.s, c.s, c.s] := by rw [hL]; exact inv_new hr
  have hc0 : L.I.c = c := by rw [hL]; unfold newI; rfl
  have sm0 : Sim L.I (newJ c) := by rw [hL]; exact sim_new c
  refine walk ?_
  refine s_call rfl (dConfig (c := c)) rfl ?_
  rintro _ _ ⟨e_, rfl⟩
  obtain rfl := e_.symm
  refine walk ?_
  refine walk ?_
  refine s_call rfl (rNew27 (c := c) hr) rfl ?_
  rintro _ _ ⟨X1, a1, rfl, rfl, hX1⟩
  refine walk ?_
  refine s_call rfl (dNotes27 (hs0.ent InH.ent) (by omega)) rfl ?_
  rintro v2 _ ⟨X2, rfl, hX2⟩
  have hX2' := hX2
  unfold Rd at hX2'
  obtain ⟨ao2, cap2, rfl, _⟩ := hX2'
  refine walk ?_
  refine s_call rfl (rTake (J := newJ c) (l := l) (G := X1) hX1 Ent.auto (hX2.ent InH.ent) (sm0.ok ok0) (by omega) (sm0.inv in0)) rfl ?_
  rintro _ _ ⟨X3, a3, rfl, rfl, hX3⟩
  obtain ⟨t1, t2⟩ := takeI_sim l sm0
  obtain ⟨cnt2, in2⟩ := takeI_inv l in0 ok0
  have ok2 := takeI_ok l ok0
  have hc2 : (takeI L.I l).2.c = c := by rw [takeI_c, hc0]
  rw [← t1]
  obtain ⟨mk, hmk⟩ : ∃ mk, (takeI L.I l).1 = mk := ⟨_, rfl⟩
  obtain ⟨ev_, hev⟩ : ∃ e : Int, (if mk = l.length then (0 : Int) else 260) = e := ⟨_, rfl⟩
  rw [hmk, hev]
  refine walk ?_
  refine s_alloc rfl ?_
  intro b8
  refine walk ?_
  refine s_storeV (vs := (rfC (takeI (newJ c) l).2 a3)) rfl rfl rfl rfl rfl ?_
  refine walk ?_
  refine s_call rfl (iTake (x := x) (L := L) (l := l) (hs0.ent InH.ent) ok0 (by omega)) rfl ?_
  rintro _ _ ⟨rfl, rfl⟩
  rw [hmk, hev]
  refine walk ?_
  have hmE := ok2.ml
  have hpE := ok2.pl
  have htE := ok2.tl
  have hsE := ok2.sl
  rw [hc2] at hmE hpE htE
  have hLO : LOk (takeI L.I l).2.sem := fun i_ l_ y_ h_ => by have := ok2.sk i_ l_ y_ h_; omega
  refine s_call rfl (sameIdeal (x := x) (L := L.put (takeI L.I l).2) (J := (takeI (newJ c) l).2) (a := a3) (by exact hX3.ent Ent.auto) t2 ok2 (by omega) in2) rfl ?_
  rintro _ _ ⟨e_, rfl⟩
  obtain rfl := e_.symm
  obtain ⟨I2, hI2⟩ : ∃ I2, (takeI L.I l).2 = I2 := ⟨_, rfl⟩
  rw [hI2] at hmE hpE htE hsE hLO in2 ok2 ⊢
  refine walk ?_
  refine s_call rfl (iStatus (x := x) (L := L.put I2) (g := i)) rfl ?_
  rintro _ _ ⟨e_, rfl⟩
  obtain rfl := e_.symm
  refine walk ?_
  refine s_call rfl (iM (x := x) (L := L.put I2) (m := i)) rfl ?_
  rintro _ _ ⟨e_, rfl⟩
  obtain rfl := e_.symm
  obtain ⟨a0, a1_, a2_, hst⟩ : ∃ a0 a1_ a2_, stC (L.put I2).I i = [.int .i64 a0, .int .i64 a1_, .int .i64 a2_] := by
    unfold stC
    split
    · exact ⟨_, _, _, rfl⟩
    · exact ⟨_, _, _, rfl⟩
  have hst0 : ¬ (0 ≤ i ∧ i < (L.put I2).I.ms.length) → a0 = 0 ∧ a1_ = 0 ∧ a2_ = 0 := by
    intro h
    unfold stC at hst
    rw [if_neg h] at hst
    simp at hst
    exact ⟨hst.1.symm, hst.2.1.symm, hst.2.2.symm⟩
  have hs0_ : ¬ (0 ≤ i ∧ i < (L.put I2).I.tab.all.length) → (L.put I2).I.stat i = 0 := by
    intro h
    unfold Ide.stat
    rw [if_neg h]
  rw [hst]
  refine walk ?_
  refine s_alloc rfl ?_
  intro b15
  refine walk ?_
  refine s_storeV (vs := [.int .i64 a0, .int .i64 a1_, .int .i64 a2_]) rfl rfl rfl rfl rfl ?_
  refine walk ?_
  obtain ⟨pv, hpv, hpn⟩ : ∃ pv, (if 0 ≤ i ∧ i < (L.put I2).I.ps.length then (L.put I2).I.pAt i else -3) = pv ∧ (pv = -3 ↔ ¬ (0 ≤ i ∧ i < (L.put I2).I.ps.length)) := by
    refine ⟨_, rfl, ?_⟩
    split
    · rename_i h
      have := inv_p in2 h
      have e : (L.put I2).I.pAt i = I2.pAt i := rfl
      constructor
      · intro e2; omega
      · intro e2; exact absurd h e2
    · rename_i h
      exact ⟨fun _ => h, fun _ => rfl⟩
  have hmE : ((L.put I2).I.ms.length : Int) = c.m := hmE
  have hpE : ((L.put I2).I.ps.length : Int) = c.n := hpE
  have htE : ((L.put I2).I.tab.all.length : Int) = c.g := htE
  have hz : ¬ (0 ≤ i ∧ i < 4) → max 0 ((L.put I2).I.count i) = 0 ∧ rowS (L.put I2).I.sem i = [] := by
    intro h
    have e4 : (L.put I2).I.sem.length = 4 := hsE
    unfold Ide.count rowS
    split
    · rw [List.getElem?_eq_none (by omega)]; exact ⟨rfl, rfl⟩
    · exact ⟨rfl, rfl⟩
  refine s_call rfl (iP (x := x) (L := L.put I2) (p := i)) rfl ?_
  rintro _ _ ⟨e_, rfl⟩
  obtain rfl := e_.symm
  rw [hpv]
  by_cases hn : i < 0
  · skip
    rw [hs0_ (by omega), decide_eq_false (show ¬ (0 ≤ i ∧ i < ((L.put I2).I.tab.all.length : Int)) by omega)]
    obtain ⟨rfl, rfl, rfl⟩ := hst0 (by omega)
    rw [decide_eq_false (show ¬ (0 ≤ i ∧ i < ((L.put I2).I.ms.length : Int)) by omega)]
    have hpe : pv = -3 := hpn.2 (by omega)
    refine walk ?_
    (refine s_build (cs := [.int .i64 0, .int .i64 0, .int .i64 0]) ?_ rfl ?_; (· kernel_rfl))
    refine walk ?_
    refine s_neqF (stS 0 0 0) (stS 0 0 0) (b := false) rfl rfl rfl rfl (by simp) rfl ?_
    refine walk ?_
    refine s_call rfl (iCountX (x := x) (L := L.put I2) (s := i)) rfl ?_
    rintro _ _ ⟨e_, rfl⟩
    obtain rfl := e_.symm
    rw [(hz (by omega)).1]
    refine walk ?_
    refine s_call rfl (iWaits (x := x) (L := L.put I2) (s := i) hLO) rfl ?_
    rintro v9 _ rfl
    rw [(hz (by omega)).2, List.length_nil]
    refine WPL.shape ?_
    rintro a9 c9 rfl _ _ _
    refine walk ?_
    refine s_call rfl (works_spec) rfl ?_
    rintro _ _ ⟨e_, rfl⟩
    obtain rfl := e_.symm
    refine walk ?_
    (first | (apply retRD1 (G := H) (.inr rfl) rfl; (· first | (refine rv_tmp (v := .bool _) rfl) | exact rv_tmp rfl); (· exact Ent.auto)) | (apply retRD1 (G := H) (.inl rfl) rfl; (· first | (refine rv_tmp (v := .bool _) rfl) | exact rv_tmp rfl); (· exact Ent.auto)))
    exact ⟨Ent.refl _, rfl⟩
  by_cases hg : c.g ≤ i
  · skip
    rw [hs0_ (by omega), decide_eq_false (show ¬ (0 ≤ i ∧ i < ((L.put I2).I.tab.all.length : Int)) by omega)]
    by_cases hmi : c.m ≤ i
    · skip
      obtain ⟨rfl, rfl, rfl⟩ := hst0 (by omega)
      rw [decide_eq_false (show ¬ (0 ≤ i ∧ i < ((L.put I2).I.ms.length : Int)) by omega)]
      have hpe : pv = -3 := hpn.2 (by omega)
      by_cases h4 : i < 4
      · skip
        refine walk ?_
        (refine s_build (cs := [.int .i64 0, .int .i64 0, .int .i64 0]) ?_ rfl ?_; (· kernel_rfl))
        refine walk ?_
        refine s_neqF (stS 0 0 0) (stS 0 0 0) (b := false) rfl rfl rfl rfl (by simp) rfl ?_
        refine walk ?_
        refine s_call rfl (works_spec) rfl ?_
        rintro _ _ ⟨e_, rfl⟩
        obtain rfl := e_.symm
        refine walk ?_
        (first | (apply retRD1 (G := H) (.inr rfl) rfl; (· first | (refine rv_tmp (v := .bool _) rfl) | exact rv_tmp rfl); (· exact Ent.auto)) | (apply retRD1 (G := H) (.inl rfl) rfl; (· first | (refine rv_tmp (v := .bool _) rfl) | exact rv_tmp rfl); (· exact Ent.auto)))
        exact ⟨Ent.refl _, rfl⟩
      · skip
        refine walk ?_
        (refine s_build (cs := [.int .i64 0, .int .i64 0, .int .i64 0]) ?_ rfl ?_; (· kernel_rfl))
        refine walk ?_
        refine s_neqF (stS 0 0 0) (stS 0 0 0) (b := false) rfl rfl rfl rfl (by simp) rfl ?_
        refine walk ?_
        refine s_call rfl (iCountX (x := x) (L := L.put I2) (s := i)) rfl ?_
        rintro _ _ ⟨e_, rfl⟩
        obtain rfl := e_.symm
        rw [(hz (by omega)).1]
        refine walk ?_
        refine s_call rfl (iWaits (x := x) (L := L.put I2) (s := i) hLO) rfl ?_
        rintro v9 _ rfl
        rw [(hz (by omega)).2, List.length_nil]
        refine WPL.shape ?_
        rintro a9 c9 rfl _ _ _
        refine walk ?_
        refine s_call rfl (works_spec) rfl ?_
        rintro _ _ ⟨e_, rfl⟩
        obtain rfl := e_.symm
        refine walk ?_
        (first | (apply retRD1 (G := H) (.inr rfl) rfl; (· first | (refine rv_tmp (v := .bool _) rfl) | exact rv_tmp rfl); (· exact Ent.auto)) | (apply retRD1 (G := H) (.inl rfl) rfl; (· first | (refine rv_tmp (v := .bool _) rfl) | exact rv_tmp rfl); (· exact Ent.auto)))
        exact ⟨Ent.refl _, rfl⟩
    by_cases hpi : c.n ≤ i
    · skip
      have hpe : pv = -3 := hpn.2 (by omega)
      by_cases h4 : i < 4
      · skip
        refine walk ?_
        refine s_call rfl (works_spec) rfl ?_
        rintro _ _ ⟨e_, rfl⟩
        obtain rfl := e_.symm
        refine walk ?_
        (first | (apply retRD1 (G := H) (.inr rfl) rfl; (· first | (refine rv_tmp (v := .bool _) rfl) | exact rv_tmp rfl); (· exact Ent.auto)) | (apply retRD1 (G := H) (.inl rfl) rfl; (· first | (refine rv_tmp (v := .bool _) rfl) | exact rv_tmp rfl); (· exact Ent.auto)))
        exact ⟨Ent.refl _, rfl⟩
      · skip
        refine walk ?_
        refine s_call rfl (iCountX (x := x) (L := L.put I2) (s := i)) rfl ?_
        rintro _ _ ⟨e_, rfl⟩
        obtain rfl := e_.symm
        rw [(hz (by omega)).1]
        refine walk ?_
        refine s_call rfl (iWaits (x := x) (L := L.put I2) (s := i) hLO) rfl ?_
        rintro v9 _ rfl
        rw [(hz (by omega)).2, List.length_nil]
        refine WPL.shape ?_
        rintro a9 c9 rfl _ _ _
        refine walk ?_
        refine s_call rfl (works_spec) rfl ?_
        rintro _ _ ⟨e_, rfl⟩
        obtain rfl := e_.symm
        refine walk ?_
        (first | (apply retRD1 (G := H) (.inr rfl) rfl; (· first | (refine rv_tmp (v := .bool _) rfl) | exact rv_tmp rfl); (· exact Ent.auto)) | (apply retRD1 (G := H) (.inl rfl) rfl; (· first | (refine rv_tmp (v := .bool _) rfl) | exact rv_tmp rfl); (· exact Ent.auto)))
        exact ⟨Ent.refl _, rfl⟩
    have hpe : pv ≠ -3 := fun e => hpn.1 e (by omega)
    by_cases h4 : i < 4
    · skip
      refine walk ?_
      refine s_call rfl (works_spec) rfl ?_
      rintro _ _ ⟨e_, rfl⟩
      obtain rfl := e_.symm
      refine walk ?_
      (first | (apply retRD1 (G := H) (.inr rfl) rfl; (· first | (refine rv_tmp (v := .bool _) rfl) | exact rv_tmp rfl); (· exact Ent.auto)) | (apply retRD1 (G := H) (.inl rfl) rfl; (· first | (refine rv_tmp (v := .bool _) rfl) | exact rv_tmp rfl); (· exact Ent.auto)))
      exact ⟨Ent.refl _, rfl⟩
    · skip
      refine walk ?_
      refine s_call rfl (iCountX (x := x) (L := L.put I2) (s := i)) rfl ?_
      rintro _ _ ⟨e_, rfl⟩
      obtain rfl := e_.symm
      rw [(hz (by omega)).1]
      refine walk ?_
      refine s_call rfl (iWaits (x := x) (L := L.put I2) (s := i) hLO) rfl ?_
      rintro v9 _ rfl
      rw [(hz (by omega)).2, List.length_nil]
      refine WPL.shape ?_
      rintro a9 c9 rfl _ _ _
      refine walk ?_
      refine s_call rfl (works_spec) rfl ?_
      rintro _ _ ⟨e_, rfl⟩
      obtain rfl := e_.symm
      refine walk ?_
      (first | (apply retRD1 (G := H) (.inr rfl) rfl; (· first | (refine rv_tmp (v := .bool _) rfl) | exact rv_tmp rfl); (· exact Ent.auto)) | (apply retRD1 (G := H) (.inl rfl) rfl; (· first | (refine rv_tmp (v := .bool _) rfl) | exact rv_tmp rfl); (· exact Ent.auto)))
      exact ⟨Ent.refl _, rfl⟩
  by_cases hmi : c.m ≤ i
  · skip
    obtain ⟨rfl, rfl, rfl⟩ := hst0 (by omega)
    rw [decide_eq_false (show ¬ (0 ≤ i ∧ i < ((L.put I2).I.ms.length : Int)) by omega)]
    have hpe : pv = -3 := hpn.2 (by omega)
    by_cases h4 : i < 4
    · skip
      refine walk ?_
      (refine s_build (cs := [.int .i64 0, .int .i64 0, .int .i64 0]) ?_ rfl ?_; (· kernel_rfl))
      refine walk ?_
      refine s_neqF (stS 0 0 0) (stS 0 0 0) (b := false) rfl rfl rfl rfl (by simp) rfl ?_
      refine walk ?_
      refine s_call rfl (works_spec) rfl ?_
      rintro _ _ ⟨e_, rfl⟩
      obtain rfl := e_.symm
      refine walk ?_
      (first | (apply retRD1 (G := H) (.inr rfl) rfl; (· first | (refine rv_tmp (v := .bool _) rfl) | exact rv_tmp rfl); (· exact Ent.auto)) | (apply retRD1 (G := H) (.inl rfl) rfl; (· first | (refine rv_tmp (v := .bool _) rfl) | exact rv_tmp rfl); (· exact Ent.auto)))
      exact ⟨Ent.refl _, rfl⟩
    · skip
      refine walk ?_
      (refine s_build (cs := [.int .i64 0, .int .i64 0, .int .i64 0]) ?_ rfl ?_; (· kernel_rfl))
      refine walk ?_
      refine s_neqF (stS 0 0 0) (stS 0 0 0) (b := false) rfl rfl rfl rfl (by simp) rfl ?_
      refine walk ?_
      refine s_call rfl (iCountX (x := x) (L := L.put I2) (s := i)) rfl ?_
      rintro _ _ ⟨e_, rfl⟩
      obtain rfl := e_.symm
      rw [(hz (by omega)).1]
      refine walk ?_
      refine s_call rfl (iWaits (x := x) (L := L.put I2) (s := i) hLO) rfl ?_
      rintro v9 _ rfl
      rw [(hz (by omega)).2, List.length_nil]
      refine WPL.shape ?_
      rintro a9 c9 rfl _ _ _
      refine walk ?_
      refine s_call rfl (works_spec) rfl ?_
      rintro _ _ ⟨e_, rfl⟩
      obtain rfl := e_.symm
      refine walk ?_
      (first | (apply retRD1 (G := H) (.inr rfl) rfl; (· first | (refine rv_tmp (v := .bool _) rfl) | exact rv_tmp rfl); (· exact Ent.auto)) | (apply retRD1 (G := H) (.inl rfl) rfl; (· first | (refine rv_tmp (v := .bool _) rfl) | exact rv_tmp rfl); (· exact Ent.auto)))
      exact ⟨Ent.refl _, rfl⟩
  by_cases hpi : c.n ≤ i
  · skip
    have hpe : pv = -3 := hpn.2 (by omega)
    by_cases h4 : i < 4
    · skip
      refine walk ?_
      refine s_call rfl (works_spec) rfl ?_
      rintro _ _ ⟨e_, rfl⟩
      obtain rfl := e_.symm
      refine walk ?_
      (first | (apply retRD1 (G := H) (.inr rfl) rfl; (· first | (refine rv_tmp (v := .bool _) rfl) | exact rv_tmp rfl); (· exact Ent.auto)) | (apply retRD1 (G := H) (.inl rfl) rfl; (· first | (refine rv_tmp (v := .bool _) rfl) | exact rv_tmp rfl); (· exact Ent.auto)))
      exact ⟨Ent.refl _, rfl⟩
    · skip
      refine walk ?_
      refine s_call rfl (iCountX (x := x) (L := L.put I2) (s := i)) rfl ?_
      rintro _ _ ⟨e_, rfl⟩
      obtain rfl := e_.symm
      rw [(hz (by omega)).1]
      refine walk ?_
      refine s_call rfl (iWaits (x := x) (L := L.put I2) (s := i) hLO) rfl ?_
      rintro v9 _ rfl
      rw [(hz (by omega)).2, List.length_nil]
      refine WPL.shape ?_
      rintro a9 c9 rfl _ _ _
      refine walk ?_
      refine s_call rfl (works_spec) rfl ?_
      rintro _ _ ⟨e_, rfl⟩
      obtain rfl := e_.symm
      refine walk ?_
      (first | (apply retRD1 (G := H) (.inr rfl) rfl; (· first | (refine rv_tmp (v := .bool _) rfl) | exact rv_tmp rfl); (· exact Ent.auto)) | (apply retRD1 (G := H) (.inl rfl) rfl; (· first | (refine rv_tmp (v := .bool _) rfl) | exact rv_tmp rfl); (· exact Ent.auto)))
      exact ⟨Ent.refl _, rfl⟩
  have hpe : pv ≠ -3 := fun e => hpn.1 e (by omega)
  by_cases h4 : i < 4
  · skip
    refine walk ?_
    refine s_call rfl (works_spec) rfl ?_
    rintro _ _ ⟨e_, rfl⟩
    obtain rfl := e_.symm
    refine walk ?_
    (first | (apply retRD1 (G := H) (.inr rfl) rfl; (· first | (refine rv_tmp (v := .bool _) rfl) | exact rv_tmp rfl); (· exact Ent.auto)) | (apply retRD1 (G := H) (.inl rfl) rfl; (· first | (refine rv_tmp (v := .bool _) rfl) | exact rv_tmp rfl); (· exact Ent.auto)))
    exact ⟨Ent.refl _, rfl⟩
  · skip
    refine walk ?_
    refine s_call rfl (iCountX (x := x) (L := L.put I2) (s := i)) rfl ?_
    rintro _ _ ⟨e_, rfl⟩
    obtain rfl := e_.symm
    rw [(hz (by omega)).1]
    refine walk ?_
    refine s_call rfl (iWaits (x := x) (L := L.put I2) (s := i) hLO) rfl ?_
    rintro v9 _ rfl
    rw [(hz (by omega)).2, List.length_nil]
    refine WPL.shape ?_
    rintro a9 c9 rfl _ _ _
    refine walk ?_
    refine s_call rfl (works_spec) rfl ?_
    rintro _ _ ⟨e_, rfl⟩
    obtain rfl := e_.symm
    refine walk ?_
    (first | (apply retRD1 (G := H) (.inr rfl) rfl; (· first | (refine rv_tmp (v := .bool _) rfl) | exact rv_tmp rfl); (· exact Ent.auto)) | (apply retRD1 (G := H) (.inl rfl) rfl; (· first | (refine rv_tmp (v := .bool _) rfl) | exact rv_tmp rfl); (· exact Ent.auto)))
    exact ⟨Ent.refl _, rfl⟩
end
end Go.Proofs.YtlhnmbajbhaaoaaGreat
namespace Go.Proofs.YtlhnmbajbhaaoaaGreat
open Go Go.SL
set_option linter.unusedSimpArgs false
set_option linter.unusedVariables false
set_option maxRecDepth 10000
set_option maxHeartbeats 4000000
theorem six {a b c d e f : Value} {r : List Value} : ∀ j v, ([a, b, c, d, e, f] : List Value)[j]? = some v → (a :: b :: c :: d :: e :: f :: r)[0 + j]? = some v
  | 0, v, h => h
  | 1, v, h => h
  | 2, v, h => h
  | 3, v, h => h
  | 4, v, h => h
  | 5, v, h => h
  | j + 6, v, h => by simp at h
attribute [local irreducible] WP WPL QSeq QBlk QRet Does Cell Cells Rd Mine Ent Aside RV Yield TabAt SemAt IdeAt
section
variable {B : World} {H F G : HProp} {x : Nat} {L : IdL} {n : Nt} {K : Int} {s : Value}
theorem cloneM {m : Nat} {cs : List Value} (hs : Rd B H 4 s m cs) (h1 : cs.all Value.oneCell' = true) (hb : m ≤ 1000000000) :
    Does Tryz.prog B 48 [s] H (fun r H' => H' = Mine 80 4 r m cs + H) := by
  have hs' := hs
  unfold Rd at hs
  obtain ⟨ao, cap, rfl, hl, hm, hc⟩ := hs
  refine fn_intro 8 Tryz.func48 rfl rfl rfl ?_
  cases ao with
  | none =>
    have : cs = [] := by
      rcases hc with h | ⟨b, o, h, _⟩
      · exact h
      · cases h
    subst this
    have : m = 0 := by simp at hl; omega
    subst this
    refine walk ?_
    refine s_eqnilS rfl rfl (b := true) rfl rfl ?_
    refine walk ?_
    refine ret1 (v := .slice none 0 0) (.inr rfl) rfl rfl ?_
    rw [Mine.nil, HProp.emp_add]
  | some a =>
    refine walk ?_
    refine s_eqnilS rfl rfl (b := false) rfl rfl ?_
    refine walk ?_
    refine s_buildRows [] rfl rfl rfl rfl rfl rfl ?_
    intro b
    refine walk ?_
    refine WPL.ent ((Mine.of_blk (sz := 4) (n := 0) (cap := 0) (cs := []) (spare := []) rfl rfl (Nat.le_refl _) (by simp [maxLen]) rfl).frame_right _) ?_
    refine s_append (v := .slice _ _ _) rfl rfl hs' h1 rfl ?_ rfl ?_
    · simp only [maxLen]; omega
    intro v'
    simp only [Nat.zero_add, List.nil_append]
    refine walk ?_
    exact ret1 (.inr rfl) rfl rfl rfl
theorem cloneI {m : Nat} {cs : List Value} (hs : Rd B H 1 s m cs) (h1 : cs.all Value.oneCell' = true) (hb : m ≤ 1000000000) :
    Does Tryz.prog B 49 [s] H (fun r H' => H' = Mine 3 1 r m cs + H) :=
  (cloneInts_spec hs h1 (by omega)).weak fun _ _ e => ⟨_, e, rfl⟩
theorem iCopy [i : HasAt IdeAt H x L F] (ok : L.I.ok K) (hK : K ≤ 90000) : Does Tryz.prog B 20 [ptr x] H fun r H' => ∃ y L2, r = ptr y ∧ L2.I = L.I ∧ H' = IdeAt y L2 + H := by
  have hml := ok.ml
  have hpl := ok.pl
  have hcc := ok.c
  obtain ⟨_, c1, c2, c3, c4, c5, c6, _⟩ := hcc
  have hLO : LOk L.I.sem := rowS_all ok.sk (by omega)
  rw [i.eq]
  refine Does.weak (R := fun r H' => ∃ y L2, r = ptr y ∧ L2.I = L.I ∧ Ent H' (IdeAt y L2 + (IdeAt x L + F))) ?_ fun v H1 ⟨y, L2, h1, h2, h3⟩ => ⟨_, h3, y, L2, h1, h2, rfl⟩
  rw [ide_open]
  refine fn_intro 35 Tryz.func20 rfl rfl rfl ?_
  refine walk ?_
  (refine wp_draw [8, 13, 18, 23, 29] (.look 0 (.look 1 (.look 2 (.look 3 (.look 4 (.look 5 (.look 6 (.look 7 (.look 9 (.look 10 (.look 11 (.look 12 (.look 14 (.look 15 (.look 16 (.look 17 (.look 19 (.look 20 (.look 21 (.look 22 (.look 24 (.look 25 (.look 26 (.look 27 (.act 8 (.act 13 (.act 18 (.act 23 (.look 28 (.act 29 (.look 30 .nil) .stop)) .stop) .stop) .stop) .stop))))))))))))))))))))))))) (by kernel_rfl) ?_; refine dwP ?_; refine dwP ?_; refine dwP ?_; (apply dw_look; (· exact rfl); (· exact rfl); (· (refine s_loadA (vs := cv L.I.c) rfl (Cells.blk six) rfl rfl ?_; exact looked))); refine dwP ?_; refine dwP ?_; refine dwP ?_; refine dwL ?_; refine dwP ?_; refine dwP ?_; refine dwP ?_; refine dwL ?_; refine dwP ?_; refine dwP ?_; refine dwP ?_; refine dwL ?_; refine dwP ?_; refine dwP ?_; refine dwP ?_; refine dwL ?_; refine dwP ?_; refine dwP ?_; refine dwP ?_; refine dwL ?_; skip)
  refine dw_do rfl rfl ?_ dw_stop
  refine s_call rfl (tCopy (p := L.q) (T := L.I.tab) ok.tab (by omega)) rfl ?_
  rintro _ _ ⟨q2, rfl, rfl⟩
  refine wpl_nil (qone ⟨(by (refine st_again ?_ ?_; (· exact looked)); (refine st_again ?_ ?_; (· exact looked)); (refine st_again ?_ ?_; (· exact looked)); (refine st_again ?_ ?_; (· exact looked)); refine st_past (by kernel_rfl) ?_; (refine st_again ?_ ?_; (· refine s_loadA (vs := cv L.I.c) rfl (Cells.blk six) rfl rfl ?_; exact looked)); exact st_nil), ?_⟩)
  (skip)
  refine dw_do rfl rfl ?_ dw_stop
  refine s_call rfl (sCopy (p := L.s) (S := L.I.sem) hLO) rfl ?_
  rintro _ _ ⟨s2, rfl, rfl⟩
  refine wpl_nil (qone ⟨(by (refine st_again ?_ ?_; (· exact looked)); (refine st_again ?_ ?_; (· exact looked)); (refine st_again ?_ ?_; (· exact looked)); refine st_past (by kernel_rfl) ?_; refine st_past (by kernel_rfl) ?_; (refine st_again ?_ ?_; (· refine s_loadA (vs := cv L.I.c) rfl (Cells.blk six) rfl rfl ?_; exact looked)); exact st_nil), ?_⟩)
  (skip)
  refine dw_do rfl rfl ?_ dw_stop
  refine s_call rfl (cloneM (m := L.I.ms.length) (cs := mcs L.I.ms) (Rd.blkPre (mcs_len _) (by simp only [maxLen]; omega)) (mcs_one _) (by omega)) rfl ?_
  rintro v2 _ rfl
  refine WPL.shape ?_
  rintro am cm2 rfl _ _ _
  refine WPL.open (by omega) ?_
  rintro bm2 sm2 rfl hsm
  refine wpl_nil (qone ⟨(by (refine st_again ?_ ?_; (· exact looked)); (refine st_again ?_ ?_; (· exact looked)); refine st_past (by kernel_rfl) ?_; refine st_past (by kernel_rfl) ?_; refine st_past (by kernel_rfl) ?_; (refine st_again ?_ ?_; (· refine s_loadA (vs := cv L.I.c) rfl (Cells.blk six) rfl rfl ?_; exact looked)); exact st_nil), ?_⟩)
  (skip)
  refine dw_do rfl rfl ?_ dw_stop
  refine s_call rfl (cloneI (m := L.I.ps.length) (cs := zs L.I.ps) (Rd.blkPre (by rw [zs_length, Nat.mul_one]) (by simp only [maxLen]; omega)) (zs_one _) (by omega)) rfl ?_
  rintro v3 _ rfl
  refine WPL.shape ?_
  rintro ap cp2 rfl _ _ _
  refine WPL.open (by omega) ?_
  rintro bp2 sp2 rfl hsp
  refine wpl_nil (qone ⟨(by (refine st_again ?_ ?_; (· exact looked)); refine st_past (by kernel_rfl) ?_; refine st_past (by kernel_rfl) ?_; refine st_past (by kernel_rfl) ?_; refine st_past (by kernel_rfl) ?_; (refine st_again ?_ ?_; (· refine s_loadA (vs := cv L.I.c) rfl (Cells.blk six) rfl rfl ?_; exact looked)); exact st_nil), ?_⟩)
  ((apply dw_pure; (· exact rfl); (· exact rfl); (· (intro G; (refine s_build (cs := (ideC ⟨L.I, q2, s2, bm2, cm2, sm2, bp2, cp2, sp2⟩)) ?_ rfl ?_; (· kernel_rfl)); exact looked))); skip)
  refine dw_do rfl rfl ?_ dw_stop
  refine s_box (cs := ideC ⟨L.I, q2, s2, bm2, cm2, sm2, bp2, cp2, sp2⟩) rfl rfl rfl ?_
  intro y
  refine wpl_nil (qone ⟨(by refine st_past (by kernel_rfl) ?_; refine st_past (by kernel_rfl) ?_; refine st_past (by kernel_rfl) ?_; refine st_past (by kernel_rfl) ?_; refine st_past (by kernel_rfl) ?_; refine st_past (by kernel_rfl) ?_; exact st_nil), ?_⟩)
  (refine dwP ?_; refine dw_nil ?_; skip)
  refine walk ?_
  refine retR1 (.inr rfl) rfl (rv_tmp (v := ptr y) rfl) ⟨y, ⟨L.I, q2, s2, bm2, cm2, sm2, bp2, cp2, sp2⟩, rfl, rfl, ?_⟩
  rw [ide_open]
  simp only
  exact Ent.auto
end
end Go.Proofs.YtlhnmbajbhaaoaaGreat
namespace Go.Proofs.YtlhnmbajbhaaoaaGreat
open Go Go.SL
set_option linter.unusedSimpArgs false
set_option linter.unusedVariables false
set_option maxRecDepth 10000
set_option maxHeartbeats 8000000
theorem takeI_one {I : Ide} {n : Nt} (h : mayB I n = true) : takeI I [n] = (1, stepI I n) := by rw [takeI_cons, if_pos h]; rfl
theorem takeI_none {I : Ide} {n : Nt} (h : mayB I n = false) : takeI I [n] = (0, I) := by rw [takeI_cons, if_neg (by rw [h]; simp)]
attribute [local irreducible] WP WPL QSeq QBlk QRet Does Cell Cells Rd Mine Ent Aside RV Yield TabAt SemAt IdeAt newI newJ I6 takeI
section
variable {B : World} {H F G : HProp} {x : Nat} {L : IdL} {n : Nt} {l : List Nt} {s : Value} {c : Cfg} {i m : Int}
theorem plays_law (hs : Rd B H 5 s l.length (nvs l)) : Does Tryz.prog B 4 [cfgV c, s] H fun r H' => H' = H ∧ r = .bool true := by
  refine Does.frame0 ?_
  have hs0 := hs
  unfold Rd at hs
  obtain ⟨ao, cap, rfl, hl, hm, ha⟩ := hs
  unfold maxLen at hm
  by_cases h100 : l.length ≤ 100
  case neg =>
    refine fn_intro 112 Tryz.func4 rfl rfl rfl ?_
    refine walk ?_
    refine s_box (cs := cv c) rfl rfl rfl ?_
    intro b2
    refine walk ?_
    refine s_call rfl (works_spec) rfl ?_
    rintro _ _ ⟨e_, rfl⟩
    obtain rfl := e_.symm
    refine walk ?_
    (first | (apply retRD1 (G := H) (.inr rfl) rfl; (· first | (refine rv_tmp (v := .bool _) rfl) | exact rv_tmp rfl); (· exact Ent.auto)) | (apply retRD1 (G := H) (.inl rfl) rfl; (· first | (refine rv_tmp (v := .bool _) rfl) | exact rv_tmp rfl); (· exact Ent.auto)))
    exact ⟨Ent.refl _, rfl⟩
  by_cases h40 : c.g ≤ 40
  case neg =>
    refine fn_intro 112 Tryz.func4 rfl rfl rfl ?_
    refine walk ?_
    refine s_box (cs := cv c) rfl rfl rfl ?_
    intro b2
    refine walk ?_
    refine s_call rfl (works_spec) rfl ?_
    rintro _ _ ⟨e_, rfl⟩
    obtain rfl := e_.symm
    refine walk ?_
    (first | (apply retRD1 (G := H) (.inr rfl) rfl; (· first | (refine rv_tmp (v := .bool _) rfl) | exact rv_tmp rfl); (· exact Ent.auto)) | (apply retRD1 (G := H) (.inl rfl) rfl; (· first | (refine rv_tmp (v := .bool _) rfl) | exact rv_tmp rfl); (· exact Ent.auto)))
    exact ⟨Ent.refl _, rfl⟩
  by_cases hr : RightP c
  case neg =>
    refine fn_intro 112 Tryz.func4 rfl rfl rfl ?_
    refine walk ?_
    refine s_box (cs := cv c) rfl rfl rfl ?_
    intro b2
    refine walk ?_
    refine s_call rfl (iNew_no (c := c) hr) rfl ?_
    rintro _ _ ⟨e_, rfl⟩
    obtain rfl := e_.symm
    refine walk ?_
    refine s_call rfl (cRight (c := c)) rfl ?_
    rintro _ _ ⟨e_, rfl⟩
    obtain rfl := e_.symm
    refine walk ?_
    rw [decide_eq_false hr]
    refine walk ?_
    refine s_call rfl (works_spec) rfl ?_
    rintro _ _ ⟨e_, rfl⟩
    obtain rfl := e_.symm
    refine walk ?_
    (first | (apply retRD1 (G := H) (.inr rfl) rfl; (· first | (refine rv_tmp (v := .bool _) rfl) | exact rv_tmp rfl); (· exact Ent.auto)) | (apply retRD1 (G := H) (.inl rfl) rfl; (· first | (refine rv_tmp (v := .bool _) rfl) | exact rv_tmp rfl); (· exact Ent.auto)))
    exact ⟨Ent.refl _, rfl⟩
  have hrp := hr
  obtain ⟨_, c1, c2, c3, c4, c5, c6, _, _, c9, c10⟩ := hrp
  refine fn_intro 112 Tryz.func4 rfl rfl rfl ?_
  refine walk ?_
  refine s_box (cs := cv c) rfl rfl rfl ?_
  intro b2
  refine walk ?_
  refine s_call rfl (iNew (c := c) hr) rfl ?_
  rintro _ _ ⟨x, L, hL, rfl, rfl⟩
  refine walk ?_
  have ok0 : L.I.ok 1 := by rw [hL]; exact new_ok hr
  have in0 : Inv L.I [c.s, c.s, c.s, c.s] := by rw [hL]; exact inv_new hr
  have sm0 : Sim L.I (newJ c) := by rw [hL]; exact sim_new c
  refine walk ?_
  refine s_call rfl (cRight (c := c)) rfl ?_
  rintro _ _ ⟨e_, rfl⟩
  obtain rfl := e_.symm
  refine walk ?_
  rw [decide_eq_true hr]
  refine walk ?_
  refine s_call rfl (dConfig (c := c)) rfl ?_
  rintro _ _ ⟨e_, rfl⟩
  obtain rfl := e_.symm
  refine walk ?_
  refine walk ?_
  refine s_call rfl (rNew27 (c := c) hr) rfl ?_
  rintro _ _ ⟨X1, a1, rfl, rfl, hX1⟩
  refine walk ?_
  refine s_alloc rfl ?_
  intro b6
  refine walk ?_
  refine s_storeV (vs := (rfC (newJ c) a1)) rfl rfl rfl rfl rfl ?_
  refine walk ?_
  refine wp_loopF (α := Nat × Ide × Ide × RA × HProp) [4, 7, 8, 9, 10, 11, 12, 13, 14, 15, 40, 41, 42, 43, 44, 45, 46, 47, 48, 49, 50, 51, 52, 53, 54, 55, 56, 57, 58, 59, 60, 61, 62, 63, 64, 65, 66, 67, 68, 69, 70, 71, 72, 73, 74, 75, 76, 77, 78, 79, 80, 81, 82, 83, 84, 85, 86, 87, 88, 89, 90, 91, 92, 93, 94, 95, 96, 97, 98, 99, 100, 101, 102, 103, 104, 105, 106, 107, 108, 109, 110] (fun z => [(7, .int .i64 (z.1 : Nat))])
    (fun z => IdeAt x (L.put z.2.1) + (blk b6 (rfC z.2.2.1 z.2.2.2.1) 35 + (z.2.2.2.2 + (blk b2 (cv c) 23 + H))))
    (fun z => z.1 ≤ l.length ∧ z.2.1.ok (1 + 3 * z.1) ∧ (∃ cnt, Inv z.2.1 cnt) ∧ Sim z.2.1 z.2.2.1 ∧ RI B z.2.2.2.2 z.2.2.1 z.2.2.2.1) (fun z => l.length - z.1) (0, L.I, newJ c, a1, X1) agreed (by show Ent _ (IdeAt x L + _); exact Ent.auto) ⟨Nat.zero_le _, by simpa using ok0, ⟨_, in0⟩, sm0, hX1⟩ ?_
  rintro ⟨k, I, J, a, X⟩ f ⟨hk, okI, ⟨cnt, inv⟩, hsim, hR⟩
  simp only at hk okI inv hsim hR
  simp only [putAll]
  by_cases hlt : k < l.length
  · obtain ⟨n, hn⟩ : ∃ n, l[k] = n := ⟨_, rfl⟩
    obtain ⟨bs, os, rfl, hcs⟩ : ∃ b o, ao = some ⟨b, o, none⟩ ∧ Cells B H b o (nvs l) := by
      rcases ha with h | ⟨b, o, h1, h2⟩
      · rw [h] at hl; simp at hl; omega
      · exact ⟨b, o, h1, h2⟩
    have hcell := nvs_cells hcs hlt
    rw [hn] at hcell
    have okJ := hsim.ok okI
    have inJ := hsim.inv inv
    have okL : (L.put I).I.ok (1 + 3 * k) := okI
    have inL : Inv (L.put I).I cnt := inv
    have smL : Sim (L.put I).I J := hsim
    refine walk ?_
    refine wp_cut_here (α := Nat × IdL × Nat) [8, 9, 46, 47, 48] (fun z => [(8, ptr z.1), (9, ptr z.2.2)]) (fun z => IdeAt z.1 z.2.1 + (blk z.2.2 (rfC J a) 35 + (IdeAt x (L.put I) + (blk b6 (rfC J a) 35 + (X + (blk b2 (cv c) 23 + H)))))) (fun z => z.2.1.I = I) ?_ ?_
    · skip
      (refine wp_draw [1, 3, 5] (.look 0 (.look 2 (.act 1 (.act 3 (.look 4 (.act 5 .nil .stop)) .stop) (.act 3 (.act 1 (.look 4 (.act 5 .nil .stop)) .stop) .stop)))) (by kernel_rfl) ?_; refine dwP ?_; refine dwL ?_; skip)
      refine dw_do rfl rfl ?_ (dw_do rfl rfl ?_ dw_stop)
      · skip
        refine s_call rfl (iCopy (x := x) (L := L.put I) okL (by omega)) rfl ?_
        rintro _ _ ⟨y, L2, rfl, hL2, rfl⟩
        refine wpl_nil (qone ⟨(by (refine st_again ?_ ?_; (· exact looked)); exact st_nil), ?_⟩)
        (skip)
        refine dw_do rfl rfl ?_ dw_stop
        refine s_alloc rfl ?_
        intro b9
        refine wpl_nil (qone ⟨(by (refine st_again ?_ ?_; (· exact looked)); exact st_nil), ?_⟩)
        (refine dwP ?_; skip)
        refine dw_do0 rfl rfl ?_ dw_stop
        refine s_storeV (vs := rfC J a) rfl rfl rfl rfl rfl ?_
        refine wpl_nil (qone0 ⟨(by refine st_past (by kernel_rfl) ?_; exact st_nil), ?_⟩)
        (refine dw_nil ?_; skip)
        refine walk ?_
        exact ⟨(y, L2, b9), asided, agreed, Ent.auto, hL2⟩
      · skip
        refine s_alloc rfl ?_
        intro b9
        refine wpl_nil (qone ⟨(by (refine st_again ?_ ?_; (· exact looked)); exact st_nil), ?_⟩)
        (skip)
        refine dw_do rfl rfl ?_ dw_stop
        refine s_call rfl (iCopy (x := x) (L := L.put I) okL (by omega)) rfl ?_
        rintro _ _ ⟨y, L2, rfl, hL2, rfl⟩
        refine wpl_nil (qone ⟨(by (refine st_again ?_ ?_; (· exact looked)); exact st_nil), ?_⟩)
        (refine dwP ?_; skip)
        refine dw_do0 rfl rfl ?_ dw_stop
        refine s_storeV (vs := rfC J a) rfl rfl rfl rfl rfl ?_
        refine wpl_nil (qone0 ⟨(by refine st_past (by kernel_rfl) ?_; exact st_nil), ?_⟩)
        (refine dw_nil ?_; skip)
        refine walk ?_
        exact ⟨(y, L2, b9), asided, agreed, Ent.auto, hL2⟩
    rintro ⟨y, L2, b9⟩ f12 hL2
    simp only at hL2
    simp only [putAll]
    refine walk ?_
    refine s_call rfl (dNote (n := n)) rfl ?_
    rintro _ _ ⟨e_, rfl⟩
    obtain rfl := e_.symm
    refine walk ?_
    refine walk ?_
    refine s_alloc rfl ?_
    intro b10
    refine walk ?_
    refine s_storeV (vs := (nv n)) rfl rfl rfl rfl rfl ?_
    refine walk ?_
    refine s_call rfl (rMay (J := J) (a := a) (n := n) (by exact hR.ent Ent.auto) okJ inJ) rfl ?_
    rintro _ _ ⟨e_, rfl⟩
    obtain rfl := e_.symm
    refine walk ?_
    refine s_call rfl (iMay (x := x) (L := L.put I) (n := n) okL (by omega)) rfl ?_
    rintro _ _ ⟨e_, rfl⟩
    obtain rfl := e_.symm
    rw [show mayB (L.put I).I n = mayB J n from hsim.may]
    have smC : Sim L2.I J := by rw [hL2]; exact hsim
    have okC : L2.I.ok (1 + 3 * k) := by rw [hL2]; exact okI
    have inC : Inv L2.I cnt := by rw [hL2]; exact inv
    by_cases hmay : mayB J n = true
    · have hmI : mayB I n = true := by rw [hsim.may]; exact hmay
      have htk : takeI (L.put I).I [n] = (1, stepI I n) := takeI_one hmI
      have htv : (if (takeI (L.put I).I [n]).1 = [n].length then (0 : Int) else 260) = 0 := by rw [htk]; rfl
      have ok2 : (L.put (stepI I n)).I.ok (1 + 3 * k + 3) := okI.step hmI
      have ok3 : (stepI I n).ok (1 + 3 * ((k + 1 : Nat) : Int)) := by
        have e : 1 + 3 * ((k + 1 : Nat) : Int) = 1 + 3 * (k : Int) + 3 := by omega
        rw [e]; exact okI.step hmI
      have in2 : Inv (L.put (stepI I n)).I (cntS cnt n) := inv_step inv okI hmI
      have sm2 : Sim (L.put (stepI I n)).I (stepI J n) := hsim.step
      rw [hmay]
      refine walk ?_
      refine s_call rfl (sameIdeal (x := x) (L := L.put I) (J := J) (a := a) (by exact hR.ent Ent.auto) smL okL (by omega) inL) rfl ?_
      rintro _ _ ⟨e_, rfl⟩
      obtain rfl := e_.symm
      refine walk ?_
      refine s_call rfl (rDo (J := J) (a := a) (n := n) (G := X) hR (by exact Ent.auto) okJ (by omega) inJ hmay) rfl ?_
      rintro _ _ ⟨X2, a2, rfl, rfl, hr2⟩
      refine walk ?_
      refine s_storeV (vs := rfC (stepI J n) a2) rfl rfl rfl rfl rfl ?_
      refine walk ?_
      refine s_buildSlice (cs := nv n) rfl ?_ rfl ?_
      · kernel_rfl
      intro bn
      refine walk ?_
      refine s_call rfl (iTake (x := x) (L := L.put I) (l := [n]) (s := .slice (some ⟨bn, 0, none⟩) 1 1) (Rd.ent (G := blk bn (nv n) 59) (Rd.blk0 (e := 59) rfl (by simp [maxLen])) InH.ent) okL (by simp only [List.length_cons, List.length_nil]; omega)) rfl ?_
      rintro _ _ ⟨rfl, rfl⟩
      rw [htv, htk]
      refine walk ?_
      refine s_call rfl (sameIdeal (x := x) (L := L.put (stepI I n)) (J := stepI J n) (a := a2) (by exact hr2.ent Ent.auto) sm2 ok2 (by omega) in2) rfl ?_
      rintro _ _ ⟨e_, rfl⟩
      obtain rfl := e_.symm
      refine walk ?_
      refine s_call rfl (sameIdeal (x := x) (L := L.put (stepI I n)) (J := stepI J n) (a := a2) (by exact hr2.ent Ent.auto) sm2 ok2 (by omega) in2) rfl ?_
      rintro _ _ ⟨e_, rfl⟩
      obtain rfl := e_.symm
      refine walk ?_
      refine s_call rfl (sameIdeal (x := y) (L := L2) (J := J) (a := a) (by exact hR.ent Ent.auto) smC okC (by omega) inC) rfl ?_
      rintro _ _ ⟨e_, rfl⟩
      obtain rfl := e_.symm
      refine walk ?_
      exact ⟨(k + 1, stepI I n, stepI J n, a2, X2 + X), asided, agreed, by simp only [HProp.add_assoc]; exact Ent.auto, ⟨by omega, ok3, ⟨_, in2⟩, sm2, hr2⟩, by simp only; omega⟩
    · have hmay : mayB J n = false := by simpa using hmay
      have hmI : mayB I n = false := by rw [hsim.may]; exact hmay
      have htk : takeI (L.put I).I [n] = (0, I) := takeI_none hmI
      have htv : (if (takeI (L.put I).I [n]).1 = [n].length then (0 : Int) else 260) = 260 := by rw [htk]; rfl
      have ok3 : I.ok (1 + 3 * ((k + 1 : Nat) : Int)) := by
        have e : 1 + 3 * ((k + 1 : Nat) : Int) = 1 + 3 * (k : Int) + 1 + 1 + 1 := by omega
        rw [e]; exact okI.mono.mono.mono
      rw [hmay]
      refine walk ?_
      refine s_call rfl (sameIdeal (x := x) (L := L.put I) (J := J) (a := a) (by exact hR.ent Ent.auto) smL okL (by omega) inL) rfl ?_
      rintro _ _ ⟨e_, rfl⟩
      obtain rfl := e_.symm
      refine walk ?_
      refine s_buildSlice (cs := nv n) rfl ?_ rfl ?_
      · kernel_rfl
      intro bn
      refine walk ?_
      refine s_call rfl (iTake (x := x) (L := L.put I) (l := [n]) (s := .slice (some ⟨bn, 0, none⟩) 1 1) (Rd.ent (G := blk bn (nv n) 59) (Rd.blk0 (e := 59) rfl (by simp [maxLen])) InH.ent) okL (by simp only [List.length_cons, List.length_nil]; omega)) rfl ?_
      rintro _ _ ⟨rfl, rfl⟩
      rw [htv, htk]
      refine walk ?_
      refine s_call rfl (sameIdeal (x := x) (L := L.put I) (J := J) (a := a) (by exact hR.ent Ent.auto) smL okL (by omega) inL) rfl ?_
      rintro _ _ ⟨e_, rfl⟩
      obtain rfl := e_.symm
      refine walk ?_
      refine s_call rfl (sameIdeal (x := x) (L := L.put I) (J := J) (a := a) (by exact hR.ent Ent.auto) smL okL (by omega) inL) rfl ?_
      rintro _ _ ⟨e_, rfl⟩
      obtain rfl := e_.symm
      refine walk ?_
      refine s_call rfl (sameIdeal (x := y) (L := L2) (J := J) (a := a) (by exact hR.ent Ent.auto) smC okC (by omega) inC) rfl ?_
      rintro _ _ ⟨e_, rfl⟩
      obtain rfl := e_.symm
      refine walk ?_
      exact ⟨(k + 1, I, J, a, X), asided, agreed, Ent.auto, ⟨by omega, ok3, ⟨_, inv⟩, hsim, hR⟩, by simp only; omega⟩
  · have hkl : k = l.length := by omega
    refine walk ?_
    refine s_call rfl (works_spec) rfl ?_
    rintro _ _ ⟨e_, rfl⟩
    obtain rfl := e_.symm
    refine walk ?_
    (first | (apply retRD1 (G := H) (.inr rfl) rfl; (· first | (refine rv_tmp (v := .bool _) rfl) | exact rv_tmp rfl); (· exact Ent.auto)) | (apply retRD1 (G := H) (.inl rfl) rfl; (· first | (refine rv_tmp (v := .bool _) rfl) | exact rv_tmp rfl); (· exact Ent.auto)))
    exact ⟨Ent.refl _, rfl⟩
end
end Go.Proofs.YtlhnmbajbhaaoaaGreat
