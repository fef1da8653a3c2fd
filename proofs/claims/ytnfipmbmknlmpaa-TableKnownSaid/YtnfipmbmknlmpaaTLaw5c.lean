/- The law on acts that are played side by side: the play. No condition. -/
import Derived.Test.YtnfipmbmknlmpaaTTab9
namespace Go.Proofs.Ytnfipmbmknlmpaa
open Go Go.SL
set_option linter.unusedSimpArgs false
set_option linter.unusedVariables false
set_option maxRecDepth 10000
attribute [local irreducible] WP WPL QSeq QBlk QRet Does Cell Cells Rd Own Ent Aside RV TabX TabAt

section
variable {B : World} {F H : HProp} {p : Nat} {T U : Tab}
/-- What the loop knows. -/
structure Playing (B : World) (F : HProp) (n i : Nat) (T : Tab) (X : HProp) (a : RefA) : Prop where
  le : i ≤ n
  ok : T.ok i
  ref : RefC B (X + F) a T
theorem plays_main {s : Value} {n : Int} {l : List TAct} (hs : Rd B F 3 s l.length (actCells l)) (h : n ≤ 40) (h2 : l.length ≤ 80) : Does Try.prog B 5 [.int .i64 n, s] F fun r H' => Ent H' F ∧ r = .bool true := by
  have hs' := hs
  unfold Rd at hs
  obtain ⟨ao, cap, rfl, hl, _, hal⟩ := hs
  obtain ⟨m, hm⟩ := Int.eq_ofNat_of_zero_le (show 0 ≤ max 0 (min n 256) by omega)
  have hm2 : m ≤ 256 := by omega
  refine fn_intro 143 Try.func5 rfl rfl rfl ?_
  refine walk ?_
  refine s_call rfl (tNew hm) rfl ?_
  rintro _ _ ⟨p, rfl, rfl⟩
  refine walk ?_
  refine s_call rfl (rNew hm) rfl ?_
  rintro _ _ ⟨X, a, rfl, rfl, q⟩
  refine walk ?_
  refine s_alloc rfl ?_
  intro b6
  refine walk ?_
  refine s_storeW (vs := a.cells (Tab.new m)) rfl rfl rfl (by exact rfl) (by exact rfl) ?_
  refine walk ?_
  refine wp_loopF (α := Nat × Tab × HProp × RefA) [4, 7, 8, 9, 10, 11, 12, 13, 14, 15, 16, 42, 43, 44, 45, 46, 47, 48, 49, 50, 51, 52, 53, 54, 55, 56, 57, 58, 59, 60, 61, 62, 63, 64, 65, 66, 67, 68, 69, 70, 71, 72, 73, 74, 75, 76, 77, 78, 79, 80, 81, 82, 83, 84, 85, 86, 87, 88, 89, 90, 91, 92, 93, 94, 95, 96, 97, 98, 99, 100, 101, 102, 103, 104, 105, 106, 107, 108, 109, 110, 111, 112, 113, 114, 115, 116, 117, 118, 119, 120, 121, 122, 123, 124, 125, 126, 127, 128, 129, 130, 131] (fun x => [(7, .int .i64 x.1)])
    (fun x => TabAt p x.2.1 + (blk b6 (x.2.2.2.cells x.2.1) 28 + (x.2.2.1 + F))) (fun x => Playing B F l.length x.1 x.2.1 x.2.2.1 x.2.2.2) (fun x => l.length - x.1) (0, Tab.new m, X, a) agreed ?_ ?_ ?_
  · exact Ent.auto
  · exact ⟨Nat.zero_le _, Tab.ok.new hm2, q.ent (Ent.drop_right _ _)⟩
  rintro ⟨i, T, X, a⟩ g ⟨hi, ok, href⟩
  simp only at hi ok href
  simp only [putAll]
  have hok := ok.long
  by_cases hlt : i < l.length
  · obtain ⟨bs, os, rfl, hcm, hcg, hcx⟩ := act_at hal hlt
    refine walk ?_
    refine wp_cut_here (α := Nat × Nat) [8, 9, 48, 49, 50] (fun z => [(8, ptr z.1), (9, ptr z.2)])
      (fun z => TabAt z.1 T + (blk z.2 (a.cells T) 28 + (TabAt p T + (blk b6 (a.cells T) 28 + (X + F))))) (fun _ => True) ?_ ?_
    · skip
      (refine wp_draw [1, 3, 5] (.look 0 (.look 2 (.act 1 (.act 3 (.look 4 (.act 5 .nil .stop)) .stop) (.act 3 (.act 1 (.look 4 (.act 5 .nil .stop)) .stop) .stop)))) (by kernel_rfl) ?_; (apply dw_pure; (· exact rfl); (· exact rfl); (· (intro G; exact looked))); (apply dw_look; (· exact rfl); (· exact rfl); (· exact looked)); skip)
      refine dw_do rfl rfl ?_ (dw_do rfl rfl ?_ dw_stop)
      · skip
        refine s_call rfl (tCopy ok (by omega)) rfl ?_
        rintro _ _ ⟨q, rfl, rfl⟩
        refine wpl_nil (qone ⟨(by (refine st_again ?_ ?_; (· exact looked)); exact st_nil), ?_⟩)
        (skip)
        refine dw_do rfl rfl ?_ dw_stop
        refine s_alloc rfl ?_
        intro b9
        refine wpl_nil (qone ⟨(by (refine st_again ?_ ?_; (· exact looked)); exact st_nil), ?_⟩)
        ((apply dw_pure; (· exact rfl); (· exact rfl); (· (intro G; exact looked))); skip)
        refine dw_do0 rfl rfl ?_ dw_stop
        refine s_storeW (vs := a.cells T) rfl rfl rfl (by exact rfl) (by exact rfl) ?_
        refine wpl_nil (qone0 ⟨(by refine st_past (by kernel_rfl) ?_; exact st_nil), ?_⟩)
        (refine dw_nil ?_; skip)
        refine walk ?_
        exact ⟨(q, b9), asided, agreed, Ent.auto, trivial⟩
      · skip
        refine s_alloc rfl ?_
        intro b9
        refine wpl_nil (qone ⟨(by (refine st_again ?_ ?_; (· exact looked)); exact st_nil), ?_⟩)
        (skip)
        refine dw_do rfl rfl ?_ dw_stop
        refine s_call rfl (tCopy ok (by omega)) rfl ?_
        rintro _ _ ⟨q, rfl, rfl⟩
        refine wpl_nil (qone ⟨(by (refine st_again ?_ ?_; (· exact looked)); exact st_nil), ?_⟩)
        ((apply dw_pure; (· exact rfl); (· exact rfl); (· (intro G; exact looked))); skip)
        refine dw_do0 rfl rfl ?_ dw_stop
        refine s_storeW (vs := a.cells T) rfl rfl rfl (by exact rfl) (by exact rfl) ?_
        refine wpl_nil (qone0 ⟨(by refine st_past (by kernel_rfl) ?_; exact st_nil), ?_⟩)
        (refine dw_nil ?_; skip)
        refine walk ?_
        exact ⟨(q, b9), asided, agreed, Ent.auto, trivial⟩
    · rintro ⟨q, b9⟩ g2 _
      simp only [putAll]
      refine walk ?_
      refine wp_cut_here (α := HProp × RefA) [4, 7, 8, 9, 10, 11, 12, 13, 14, 15, 16, 42, 43, 44, 45, 46, 47, 48, 49, 50, 51, 52, 53, 54, 55, 56, 57, 58, 59, 60, 61, 62, 63, 64, 65, 66, 67, 68, 69, 70, 71, 72, 73, 74, 75, 76, 77, 78, 79, 80, 81, 82, 83, 84, 85, 86, 87, 88, 89, 90, 91, 92, 93, 94, 95, 96, 97, 98, 99, 100, 101, 102, 103, 104, 105, 106, 107, 108, 109, 110, 111, 112, 113, 114, 115, 116, 117, 118, 119, 120, 121, 122, 123, 124, 125, 126, 127, 128, 129, 130, 131] (fun z => [(7, .int .i64 i), (8, ptr q), (9, ptr b9)])
        (fun z => TabAt p (T.act l[i]) + (TabAt q T + (blk b9 (a.cells T) 28 + (blk b6 (z.2.cells (T.act l[i])) 28 + (z.1 + F)))))
        (fun z => RefC B (z.1 + F) a T ∧ RefC B (z.1 + F) z.2 (T.act l[i])) ?_ ?_
      · cases hmk : l[i].isMk with
        | true =>
          have eact : T.act l[i] = T.make.2.2 := by unfold Tab.act; rw [if_pos hmk]
          rw [eact]
          refine walk ?_
          refine s_call rfl (rMake (href.ent InH.ent) ok (by omega)) rfl ?_
          rintro _ _ ⟨Y, a', rfl, rfl, hr'⟩
          refine walk ?_
          refine s_alloc rfl ?_
          intro b10
          refine walk ?_
          refine s_storeW (vs := a'.cells T.make.2.2) rfl rfl rfl (by exact rfl) (by exact rfl) ?_
          refine walk ?_
          refine s_storeW (vs := a'.cells T.make.2.2) rfl rfl rfl (by exact rfl) (by exact rfl) ?_
          refine walk ?_
          refine s_call rfl (tMake ok (by omega)) rfl ?_
          rintro _ _ ⟨rfl, rfl⟩
          refine walk ?_
          refine ⟨(Y + X, a'), asided, agreed, Ent.auto, ?_, ?_⟩
          · exact href.ent (by rw [HProp.add_assoc]; exact Ent.drop_left _ _)
          · exact (hr' _ href).ent (by rw [HProp.add_assoc]; exact Ent.refl _)
        | false =>
          have eact : T.act l[i] = (T.set l[i].g l[i].st).2 := by unfold Tab.act; rw [hmk]; rfl
          rw [eact]
          refine walk ?_
          refine wp_cut_here (α := Nat × HProp × RefA) [15, 16, 76, 77, 78, 79, 80, 81, 82, 83, 84, 85, 86, 87, 88, 89, 90] (fun z => [(15, ptr z.1), (16, .int .i64 (T.set l[i].g l[i].st).1)])
            (fun z => blk z.1 (z.2.2.cells (T.set l[i].g l[i].st).2) 28 + (z.2.1 + (TabAt q T + (blk b9 (a.cells T) 28 + (TabAt p T + (blk b6 (a.cells T) 28 + (X + F)))))))
            (fun z => ∀ G, RefC B G a T → RefC B (z.2.1 + G) z.2.2 (T.set l[i].g l[i].st).2) ?_ ?_
          · skip
            (refine wp_draw [11, 15, 16] (.look 0 (.look 1 (.look 2 (.look 3 (.look 4 (.look 5 (.look 6 (.look 7 (.look 8 (.look 9 (.look 10 (.act 11 (.look 12 (.look 13 (.look 14 (.act 15 (.act 16 (.look 17 .nil) .stop) .stop)))) (.act 15 (.act 11 (.look 12 (.look 13 (.look 14 (.act 16 (.look 17 .nil) .stop)))) .stop) .stop))))))))))))) (by kernel_rfl) ?_; (apply dw_look; (· exact rfl); (· exact rfl); (· exact looked)); (apply dw_pure; (· exact rfl); (· exact rfl); (· (intro G; exact looked))); (apply dw_pure; (· exact rfl); (· exact rfl); (· (intro G; exact looked))); (apply dw_pure; (· exact rfl); (· exact rfl); (· (intro G; exact looked))); (apply dw_pure; (· exact rfl); (· exact rfl); (· (intro G; exact looked))); (apply dw_look; (· exact rfl); (· exact rfl); (· exact looked)); (apply dw_pure; (· exact rfl); (· exact rfl); (· (intro G; exact looked))); (apply dw_pure; (· exact rfl); (· exact rfl); (· (intro G; exact looked))); (apply dw_pure; (· exact rfl); (· exact rfl); (· (intro G; exact looked))); (apply dw_pure; (· exact rfl); (· exact rfl); (· (intro G; exact looked))); (apply dw_look; (· exact rfl); (· exact rfl); (· exact looked)); skip)
            refine dw_do rfl rfl ?_ (dw_do rfl rfl ?_ dw_stop)
            · skip
              refine s_call rfl (rSet (href.ent InH.ent) ok (by omega)) rfl ?_
              rintro _ _ ⟨Y, a', rfl, rfl, hr'⟩
              refine wpl_nil (qone ⟨(by refine st_past (by kernel_rfl) ?_; refine st_past (by kernel_rfl) ?_; refine st_past (by kernel_rfl) ?_; exact st_nil), ?_⟩)
              ((apply dw_pure; (· exact rfl); (· exact rfl); (· (intro G; exact looked))); (apply dw_pure; (· exact rfl); (· exact rfl); (· (intro G; exact looked))); (apply dw_pure; (· exact rfl); (· exact rfl); (· (intro G; exact looked))); skip)
              refine dw_do rfl rfl ?_ dw_stop
              refine s_alloc rfl ?_
              intro b15
              refine wpl_nil (qone ⟨(by (refine st_again ?_ ?_; (· exact looked)); (refine st_again ?_ ?_; (· exact looked)); (refine st_again ?_ ?_; (· exact looked)); exact st_nil), ?_⟩)
              (skip)
              refine dw_do0 rfl rfl ?_ dw_stop
              refine s_storeW (vs := a'.cells (T.set l[i].g l[i].st).2) rfl rfl rfl (by exact rfl) (by exact rfl) ?_
              refine wpl_nil (qone0 ⟨(by refine st_past (by kernel_rfl) ?_; refine st_past (by kernel_rfl) ?_; refine st_past (by kernel_rfl) ?_; exact st_nil), ?_⟩)
              ((apply dw_pure; (· exact rfl); (· exact rfl); (· (intro G; exact looked))); refine dw_nil ?_; skip)
              refine walk ?_
              exact ⟨(b15, Y, a'), asided, agreed, Ent.auto, hr'⟩
            · skip
              refine s_alloc rfl ?_
              intro b15
              refine wpl_nil (qone ⟨(by (refine st_again ?_ ?_; (· exact looked)); (refine st_again ?_ ?_; (· exact looked)); (refine st_again ?_ ?_; (· exact looked)); exact st_nil), ?_⟩)
              (skip)
              refine dw_do rfl rfl ?_ dw_stop
              refine s_call rfl (rSet (href.ent InH.ent) ok (by omega)) rfl ?_
              rintro _ _ ⟨Y, a', rfl, rfl, hr'⟩
              refine wpl_nil (qone ⟨(by refine st_past (by kernel_rfl) ?_; refine st_past (by kernel_rfl) ?_; refine st_past (by kernel_rfl) ?_; exact st_nil), ?_⟩)
              ((apply dw_pure; (· exact rfl); (· exact rfl); (· (intro G; exact looked))); (apply dw_pure; (· exact rfl); (· exact rfl); (· (intro G; exact looked))); (apply dw_pure; (· exact rfl); (· exact rfl); (· (intro G; exact looked))); skip)
              refine dw_do0 rfl rfl ?_ dw_stop
              refine s_storeW (vs := a'.cells (T.set l[i].g l[i].st).2) rfl rfl rfl (by exact rfl) (by exact rfl) ?_
              refine wpl_nil (qone0 ⟨(by refine st_past (by kernel_rfl) ?_; refine st_past (by kernel_rfl) ?_; refine st_past (by kernel_rfl) ?_; exact st_nil), ?_⟩)
              ((apply dw_pure; (· exact rfl); (· exact rfl); (· (intro G; exact looked))); refine dw_nil ?_; skip)
              refine walk ?_
              exact ⟨(b15, Y, a'), asided, agreed, Ent.auto, hr'⟩
          · rintro ⟨b15, Y, a'⟩ g4 hr'
            simp only [putAll]
            refine walk ?_
            refine s_storeW (vs := a'.cells (T.set l[i].g l[i].st).2) rfl rfl rfl (by exact rfl) (by exact rfl) ?_
            refine walk ?_
            (refine wp_draw [11] (.look 0 (.look 1 (.look 2 (.look 3 (.look 4 (.look 5 (.look 6 (.look 7 (.look 8 (.look 9 (.look 10 (.look 12 (.act 11 (.look 13 .nil) .stop))))))))))))) (by kernel_rfl) ?_; (apply dw_pure; (· exact rfl); (· exact rfl); (· (intro G; exact looked))); (apply dw_pure; (· exact rfl); (· exact rfl); (· (intro G; exact looked))); (apply dw_pure; (· exact rfl); (· exact rfl); (· (intro G; exact looked))); (apply dw_pure; (· exact rfl); (· exact rfl); (· (intro G; exact looked))); (apply dw_pure; (· exact rfl); (· exact rfl); (· (intro G; exact looked))); (apply dw_look; (· exact rfl); (· exact rfl); (· exact looked)); (apply dw_pure; (· exact rfl); (· exact rfl); (· (intro G; exact looked))); (apply dw_pure; (· exact rfl); (· exact rfl); (· (intro G; exact looked))); (apply dw_pure; (· exact rfl); (· exact rfl); (· (intro G; exact looked))); (apply dw_pure; (· exact rfl); (· exact rfl); (· (intro G; exact looked))); (apply dw_look; (· exact rfl); (· exact rfl); (· exact looked)); (apply dw_pure; (· exact rfl); (· exact rfl); (· (intro G; exact looked))); skip)
            refine dw_do rfl rfl ?_ dw_stop
            refine s_call rfl (tSet ok (by omega)) rfl ?_
            rintro _ _ ⟨rfl, rfl⟩
            refine wpl_nil (qone ⟨(by refine st_past (by kernel_rfl) ?_; refine st_past (by kernel_rfl) ?_; exact st_nil), ?_⟩)
            ((apply dw_pure; (· exact rfl); (· exact rfl); (· (intro G; exact looked))); refine dw_nil ?_; skip)
            refine walk ?_
            refine ⟨(Y + X, a'), asided, agreed, Ent.auto, ?_, ?_⟩
            · exact href.ent (by rw [HProp.add_assoc]; exact Ent.drop_left _ _)
            · exact (hr' _ href).ent (by rw [HProp.add_assoc]; exact Ent.refl _)
      · rintro ⟨X', a'⟩ g3 ⟨hr1, hr2⟩
        simp only at hr1 hr2
        simp only [putAll]
        have ok2 := ok.act l[i]
        generalize hU : T.act l[i] = U at *
        have hlen : U.all.length = T.all.length := by rw [← hU]; exact Tab.act_all T l[i]
        have hself : sameTab U U = true := by rw [sameTab_eq ok2 ok2 rfl]; simp
        refine walk ?_
        (refine wp_draw [2, 7, 13, 14, 20, 23] (.look 0 (.look 1 (.act 2 (.look 3 (.look 4 (.look 5 (.look 6 (.act 7 (.look 8 (.look 9 (.look 10 (.look 11 (.look 12 (.act 13 (.act 14 (.look 15 (.look 16 (.look 17 (.look 18 (.look 19 (.look 21 (.look 22 (.act 20 (.act 23 (.look 24 (.look 25 .nil)) .stop) .stop)))))))) .stop) .stop)))))) .stop))))) .stop))) (by kernel_rfl) ?_; (apply dw_pure; (· exact rfl); (· exact rfl); (· (intro G; exact looked))); (apply dw_look; (· exact rfl); (· exact rfl); (· exact looked)); skip)
        refine dw_do rfl rfl ?_ dw_stop
        refine s_call rfl (tTable (hr2.ent InH.ent) ok2 ok2 (by omega)) rfl ?_
        rintro _ _ ⟨rfl, rfl⟩
        rw [decide_eq_true (⟨rfl, rfl⟩ : U.all = U.all ∧ U.row = U.row)]
        refine wpl_nil (qone ⟨(by refine st_past (by kernel_rfl) ?_; exact st_nil), ?_⟩)
        ((apply dw_pure; (· exact rfl); (· exact rfl); (· (intro G; exact looked))); (apply dw_pure; (· exact rfl); (· exact rfl); (· (intro G; exact looked))); (apply dw_pure; (· exact rfl); (· exact rfl); (· (intro G; exact looked))); (apply dw_look; (· exact rfl); (· exact rfl); (· exact looked)); skip)
        refine dw_do rfl rfl ?_ dw_stop
        refine walk ?_
        refine s_call rfl (tTable (hr1.ent InH.ent) ok ok (by omega)) rfl ?_
        rintro _ _ ⟨rfl, rfl⟩
        rw [decide_eq_true (⟨rfl, rfl⟩ : T.all = T.all ∧ T.row = T.row)]
        refine wpl_nil (qone ⟨(by refine st_past (by kernel_rfl) ?_; refine st_past (by kernel_rfl) ?_; exact st_nil), ?_⟩)
        ((apply dw_pure; (· exact rfl); (· exact rfl); (· (intro G; exact looked))); (apply dw_pure; (· exact rfl); (· exact rfl); (· (intro G; exact looked))); (apply dw_pure; (· exact rfl); (· exact rfl); (· (intro G; exact looked))); (apply dw_pure; (· exact rfl); (· exact rfl); (· (intro G; exact looked))); (apply dw_pure; (· exact rfl); (· exact rfl); (· (intro G; exact looked))); skip)
        refine dw_do rfl rfl ?_ dw_stop
        refine walk ?_
        refine s_call rfl (tCopy ok2 (by omega)) rfl ?_
        rintro _ _ ⟨q2, rfl, rfl⟩
        refine wpl_nil (qone ⟨(by refine st_past (by kernel_rfl) ?_; refine st_past (by kernel_rfl) ?_; exact st_nil), ?_⟩)
        (skip)
        refine dw_do rfl rfl ?_ dw_stop
        refine walk ?_
        refine s_call rfl (tSame) rfl ?_
        rintro _ _ ⟨rfl, rfl⟩
        rw [hself]
        refine wpl_nil (qone ⟨(by refine st_past (by kernel_rfl) ?_; refine st_past (by kernel_rfl) ?_; exact st_nil), ?_⟩)
        ((apply dw_pure; (· exact rfl); (· exact rfl); (· (intro G; exact looked))); (apply dw_pure; (· exact rfl); (· exact rfl); (· (intro G; exact looked))); (apply dw_pure; (· exact rfl); (· exact rfl); (· (intro G; exact looked))); (apply dw_pure; (· exact rfl); (· exact rfl); (· (intro G; exact looked))); (apply dw_pure; (· exact rfl); (· exact rfl); (· (intro G; exact looked))); (apply dw_pure; (· exact rfl); (· exact rfl); (· (intro G; exact looked))); (apply dw_look; (· exact rfl); (· exact rfl); (· exact looked)); skip)
        refine dw_do rfl rfl ?_ dw_stop
        refine walk ?_
        refine s_call rfl (tSame) rfl ?_
        rintro _ _ ⟨rfl, rfl⟩
        rw [sameTab_eq ok2 ok hlen]
        refine wpl_nil (qone ⟨(by (refine st_again ?_ ?_; (· exact looked)); refine st_past (by kernel_rfl) ?_; refine st_past (by kernel_rfl) ?_; exact st_nil), ?_⟩)
        (skip)
        refine dw_do rfl rfl ?_ dw_stop
        refine walk ?_
        refine s_call rfl (tTable (hr1.ent InH.ent) ok2 ok (by omega)) rfl ?_
        rintro _ _ ⟨rfl, rfl⟩
        refine wpl_nil (qone ⟨(by refine st_past (by kernel_rfl) ?_; refine st_past (by kernel_rfl) ?_; refine st_past (by kernel_rfl) ?_; exact st_nil), ?_⟩)
        ((apply dw_pure; (· exact rfl); (· exact rfl); (· (intro G; exact looked))); (apply dw_pure; (· exact rfl); (· exact rfl); (· (intro G; exact looked))); refine dw_nil ?_; skip)
        refine walk ?_
        exact ⟨(i + 1, U, X', a'), asided, agreed, Ent.auto, ⟨hlt, ok2, hr2⟩, by simp only; omega⟩
  · refine walk ?_
    refine s_call rfl (tTable (href.ent InH.ent) ok ok (by omega)) rfl ?_
    rintro _ _ ⟨rfl, rfl⟩
    refine walk ?_
    rw [decide_eq_true (⟨rfl, rfl⟩ : T.all = T.all ∧ T.row = T.row)]
    refine walk ?_
    refine s_call rfl (tTable (href.ent InH.ent) ok ok (by omega)) rfl ?_
    rintro _ _ ⟨rfl, rfl⟩
    refine walk ?_
    rw [decide_eq_true (⟨rfl, rfl⟩ : T.all = T.all ∧ T.row = T.row)]
    refine walk ?_
    refine s_call rfl (tWorks) rfl ?_
    rintro _ _ ⟨rfl, rfl⟩
    refine walk ?_
    refine ret1 (v := .bool _) (.inr rfl) rfl rfl ⟨?_, rfl⟩
    exact InH.ent
end
end Go.Proofs.Ytnfipmbmknlmpaa
