/- One call on two deques, and on the document's. No condition. -/
import Derived.Test.YtcnpcmdcbafaeaaDIs
namespace Go.Proofs.Ytcnpcmdcbafaeaa
open Go Go.SL
set_option linter.unusedSimpArgs false
set_option linter.unusedVariables false
set_option maxRecDepth 10000
set_option maxHeartbeats 4000000
attribute [local irreducible] WP WPL QSeq QBlk QRet Does Cell Cells Rd Mine Ent Aside RV DqX DqAt Yield
section
variable {B : World} {F H G K : HProp} {p p' : Nat} {x y L M : List Int} {g : Int} {q m : Nat}
theorem dMoveQ [a : HasAt DqAt H p ⟨q, L⟩ F] [b : HasAt DqAt F p' ⟨m, M⟩ K] : Does Try.prog B 16 [ptr p, ptr p'] H fun r H' =>
    H' = DqAt p ⟨q, (moveQ m L M).1⟩ + (DqAt p' ⟨m, (moveQ m L M).2.1⟩ + K) ∧ r = .tuple #[.int .i64 (moveQ m L M).2.2.1, .bool (moveQ m L M).2.2.2] := by
  cases L with
  | nil =>
    refine (dMove_no (p := p) (p' := p') (x := ⟨q, []⟩) (y := ⟨m, M⟩) (.inl rfl)).weak fun r H1 ⟨e, er⟩ => ⟨H1, Ent.refl _, ?_, er⟩
    rw [e, a.eq, b.eq]; rfl
  | cons y L =>
    cases M with
    | nil => exact dMove (p := p) (p' := p') (x := ⟨q, y :: L⟩) (y := ⟨m, []⟩) rfl rfl
    | cons z M =>
      refine (dMove_no (p := p) (p' := p') (x := ⟨q, y :: L⟩) (y := ⟨m, z :: M⟩) (.inr (by simp))).weak fun r H1 ⟨e, er⟩ => ⟨H1, Ent.refl _, ?_, er⟩
      rw [e, a.eq, b.eq]; rfl
theorem moveQ_len {q m : Nat} (h1 : L.length ≤ q) (h2 : M.length ≤ m) : (moveQ m L M).1.length ≤ q ∧ (moveQ m L M).2.1.length ≤ m := by
  cases L with
  | nil => exact ⟨h1, h2⟩
  | cons y L =>
    cases M with
    | nil =>
      refine ⟨?_, ?_⟩
      · show ((y :: L).drop (older (y :: L))).length ≤ q
        rw [List.length_drop]; omega
      · show ((((y :: L).take (older (y :: L))).drop 1).take m).length ≤ m
        rw [List.length_take]; omega
    | cons z M => exact ⟨h1, h2⟩
theorem putD_len {q : Nat} (h1 : L.length ≤ q) : (putD q L g).2.length ≤ q := by
  unfold putD
  split
  · simp; omega
  · show (L.take (q / 2)).length ≤ q
    rw [List.length_take]; omega
/-- What one call leaves. -/
def Done (B : World) (F G H : HProp) (p p' q m : Nat) (v : Value) (H' : HProp) : Prop :=
  ∃ X a b L1 M1, Ent H' (X + (DqAt p ⟨q, L1⟩ + (DqAt p' ⟨m, M1⟩ + F))) ∧ v = .tuple #[a, b, .bool true] ∧ RefQ B (X + G) a q L1 ∧ RefQ B (X + G) b m M1 ∧ L1.length ≤ q ∧ M1.length ≤ m
theorem mine_nil_add (H : HProp) : H = Mine 3 1 (.slice none 0 0) 0 [] + H := by rw [Mine.nil, HProp.emp_add]
theorem row_sameN {s u : Value} {xs : List Int} {k : Nat} (hk : xs.length = k) [HasOwn H s 3 1 k (zs xs) F] (hu : Rd B F 1 u k (zs xs)) : Does Try.prog B 27 [s, u] H fun r H' => H' = F ∧ r = .bool true := by
  subst hk
  exact row_same hu
theorem does_spec {r s : Value} {d gg : Int} {lo : Option Addr} {lcap : Nat} {l : List Int} (hr : RefQ B G r q L) (hs : RefQ B G s m M) (hl : Rd B G 1 (.slice lo l.length lcap) l.length (zs l)) (hlc : l.length ≤ lcap) (hl80 : l.length ≤ 80)
    [InH G F] (hq : q ≤ 64 ∧ q = q / 2 + q / 2) (hm : m ≤ 64 ∧ m = m / 2 + m / 2) (hLq : L.length ≤ q) (hMm : M.length ≤ m) :
    Does Try.prog B 21 [ptr p, ptr p', r, s, .agg [.int .i64 d, .int .i64 gg, .slice lo l.length lcap].toArray] (DqAt p ⟨q, L⟩ + (DqAt p' ⟨m, M⟩ + F)) (Done B F G H p p' q m) := by
  have hr' := hr
  have hs' := hs
  obtain ⟨ao, cap, rfl, hc, hcm, hrs⟩ := hr
  obtain ⟨bo, bcap, rfl, hbc, hbm, hbs⟩ := hs
  refine fn_intro 193 Try.func21 rfl rfl rfl ?_
  refine walk ?_
  refine s_box (cs := [.int .i64 q, .slice ao L.length cap]) rfl rfl rfl ?_
  intro b7
  refine s_box (cs := [.int .i64 m, .slice bo M.length bcap]) rfl rfl rfl ?_
  intro b8
  refine s_box (cs := [.int .i64 d, .int .i64 gg, .slice lo l.length lcap]) rfl rfl rfl ?_
  intro b9
  refine s_alloc rfl ?_
  intro b10
  refine walk ?_
  refine s_alloc rfl ?_
  intro b11
  by_cases h0 : d = 0
  · skip
    refine walk ?_
    refine s_call rfl (rPut (G := G) (g := gg) hr' (by omega) hLq hq.2) rfl ?_
    rintro _ _ ⟨X, r1, s1, rfl, rfl, hr1, hs1⟩
    have hr1' := hr1
    obtain ⟨a1, c1, rfl, hc1, hm1, hd1⟩ := hr1
    have hs1' := hs1
    unfold Rd at hs1'
    obtain ⟨sa, sc, rfl, _⟩ := hs1'
    refine walk ?_
    refine s_alloc rfl ?_
    intro b13
    refine s_storeA (vs := [.int .i64 q, .slice a1 (putD q L gg).2.length c1]) rfl rfl rfl rfl (Nat.le_refl _) rfl ?_
    refine walk ?_
    (refine wp_draw [5, 7, 8, 9] (.look 0 (.look 1 (.look 2 (.look 3 (.look 4 (.look 6 (.act 5 (.act 7 (.act 8 (.act 9 (.look 10 .nil) .stop) .stop) .stop) .stop))))))) (by kernel_rfl) ?_; (apply dw_look; (· exact rfl); (· exact rfl); (· exact looked)); (apply dw_look; (· exact rfl); (· exact rfl); (· exact looked)); (apply dw_pure; (· exact rfl); (· exact rfl); (· (intro G; exact looked))); (apply dw_pure; (· exact rfl); (· exact rfl); (· (intro G; exact looked))); (apply dw_look; (· exact rfl); (· exact rfl); (· exact looked)); (apply dw_pure; (· exact rfl); (· exact rfl); (· (intro G; exact looked))); skip)
    refine dw_do rfl rfl ?_ dw_stop
    refine s_call rfl (dPut (p := p) (x := ⟨q, L⟩) (g := gg)) rfl ?_
    rintro v1 _ rfl
    simp only
    refine wpl_nil (qone ⟨(by refine st_past (by kernel_rfl) ?_; (refine st_again ?_ ?_; (· exact looked)); (refine st_again ?_ ?_; (· exact looked)); exact st_nil), ?_⟩)
    (skip)
    refine dw_do rfl rfl ?_ dw_stop
    refine s_call rfl (row_same (s := v1) (xs := (putD q L gg).1) (hs1.ent Ent.auto)) rfl ?_
    rintro _ _ ⟨e_, rfl⟩
    obtain rfl := e_.symm
    refine wpl_nil (qone ⟨(by refine st_past (by kernel_rfl) ?_; (refine st_again ?_ ?_; (· exact looked)); (refine st_again ?_ ?_; (· exact looked)); exact st_nil), ?_⟩)
    (skip)
    refine dw_do0 rfl rfl ?_ dw_stop
    refine s_storeA (vs := [.int .i64 q, .slice a1 (putD q L gg).2.length c1]) rfl rfl rfl rfl (Nat.le_refl _) rfl ?_
    refine wpl_nil (qone0 ⟨(by refine st_past (by kernel_rfl) ?_; (refine st_again ?_ ?_; (· exact looked)); refine st_past (by kernel_rfl) ?_; exact st_nil), ?_⟩)
    (skip)
    refine dw_do0 rfl rfl ?_ dw_stop
    refine s_storeA (vs := [.int .i64 m, .slice bo M.length bcap]) rfl rfl rfl rfl (Nat.le_refl _) rfl ?_
    refine wpl_nil (qone0 ⟨(by refine st_past (by kernel_rfl) ?_; refine st_past (by kernel_rfl) ?_; refine st_past (by kernel_rfl) ?_; exact st_nil), ?_⟩)
    ((apply dw_pure; (· exact rfl); (· exact rfl); (· (intro G; exact looked))); refine dw_nil ?_; skip)
    refine walk ?_
    exact retR3 (.inr rfl) rfl (rv_cellA rfl Cells.blk0 rfl) (rv_cellA rfl Cells.blk0 rfl) (rv_tmp (v := .bool _) rfl) ⟨X, _, _, _, _, Ent.auto, rfl, hr1', hs'.ent (Ent.drop_left _ _), putD_len hLq, hMm⟩
  · by_cases h1 : d = 1
    · skip
      refine walk ?_
      refine s_call rfl (rPut (G := G) (g := gg) hr' (by omega) hLq hq.2) rfl ?_
      rintro _ _ ⟨X, r1, s1, rfl, rfl, hr1, hs1⟩
      have hr1' := hr1
      obtain ⟨a1, c1, rfl, hc1, hm1, hd1⟩ := hr1
      have hs1' := hs1
      unfold Rd at hs1'
      obtain ⟨sa, sc, rfl, _⟩ := hs1'
      refine walk ?_
      refine s_alloc rfl ?_
      intro b13
      refine s_storeA (vs := [.int .i64 q, .slice a1 (putD q L gg).2.length c1]) rfl rfl rfl rfl (Nat.le_refl _) rfl ?_
      refine walk ?_
      (refine wp_draw [5, 7, 8, 9] (.look 0 (.look 1 (.look 2 (.look 3 (.look 4 (.look 6 (.act 5 (.act 7 (.act 8 (.act 9 (.look 10 .nil) .stop) .stop) .stop) .stop))))))) (by kernel_rfl) ?_; (apply dw_look; (· exact rfl); (· exact rfl); (· exact looked)); (apply dw_look; (· exact rfl); (· exact rfl); (· exact looked)); (apply dw_pure; (· exact rfl); (· exact rfl); (· (intro G; exact looked))); (apply dw_pure; (· exact rfl); (· exact rfl); (· (intro G; exact looked))); (apply dw_look; (· exact rfl); (· exact rfl); (· exact looked)); (apply dw_pure; (· exact rfl); (· exact rfl); (· (intro G; exact looked))); skip)
      refine dw_do rfl rfl ?_ dw_stop
      refine s_call rfl (dPut (p := p) (x := ⟨q, L⟩) (g := gg)) rfl ?_
      rintro v1 _ rfl
      simp only
      refine wpl_nil (qone ⟨(by refine st_past (by kernel_rfl) ?_; (refine st_again ?_ ?_; (· exact looked)); (refine st_again ?_ ?_; (· exact looked)); exact st_nil), ?_⟩)
      (skip)
      refine dw_do rfl rfl ?_ dw_stop
      refine s_call rfl (row_same (s := v1) (xs := (putD q L gg).1) (hs1.ent Ent.auto)) rfl ?_
      rintro _ _ ⟨e_, rfl⟩
      obtain rfl := e_.symm
      refine wpl_nil (qone ⟨(by refine st_past (by kernel_rfl) ?_; (refine st_again ?_ ?_; (· exact looked)); (refine st_again ?_ ?_; (· exact looked)); exact st_nil), ?_⟩)
      (skip)
      refine dw_do0 rfl rfl ?_ dw_stop
      refine s_storeA (vs := [.int .i64 q, .slice a1 (putD q L gg).2.length c1]) rfl rfl rfl rfl (Nat.le_refl _) rfl ?_
      refine wpl_nil (qone0 ⟨(by refine st_past (by kernel_rfl) ?_; (refine st_again ?_ ?_; (· exact looked)); refine st_past (by kernel_rfl) ?_; exact st_nil), ?_⟩)
      (skip)
      refine dw_do0 rfl rfl ?_ dw_stop
      refine s_storeA (vs := [.int .i64 m, .slice bo M.length bcap]) rfl rfl rfl rfl (Nat.le_refl _) rfl ?_
      refine wpl_nil (qone0 ⟨(by refine st_past (by kernel_rfl) ?_; refine st_past (by kernel_rfl) ?_; refine st_past (by kernel_rfl) ?_; exact st_nil), ?_⟩)
      ((apply dw_pure; (· exact rfl); (· exact rfl); (· (intro G; exact looked))); refine dw_nil ?_; skip)
      refine walk ?_
      exact retR3 (.inr rfl) rfl (rv_cellA rfl Cells.blk0 rfl) (rv_cellA rfl Cells.blk0 rfl) (rv_tmp (v := .bool _) rfl) ⟨X, _, _, _, _, Ent.auto, rfl, hr1', hs'.ent (Ent.drop_left _ _), putD_len hLq, hMm⟩
    · by_cases h2 : d = 2
      · refine walk ?_
        refine WPL.ent (Ent.ac (mine_nil_add _)) ?_
        refine s_append (v := .slice none 0 0) rfl rfl hl.sub (zs_one _) rfl ?_ rfl ?_
        · simp only [maxLen]; omega
        intro v1
        simp only [Nat.zero_add, List.nil_append]
        refine WPL.shape ?_
        rintro o1 k1 rfl _ hk1 hkm1
        refine WPL.rd fun rd1 => ?_
        refine walk ?_
        refine s_call rfl (rLay (G := G) hr' hl (by omega) hLq hlc) rfl ?_
        rintro _ _ ⟨X, r1, rfl, rfl, hr1⟩
        have hr1' := hr1
        obtain ⟨a1, c1, rfl, hc1, hm1, hd1⟩ := hr1
        refine walk ?_
        refine s_alloc rfl ?_
        intro b16
        refine s_storeA (vs := [.int .i64 q, .slice a1 (L ++ l.take (q - L.length)).length c1]) rfl rfl rfl rfl (Nat.le_refl _) rfl ?_
        refine walk ?_
        refine s_call rfl (dLay (p := p) (x := ⟨q, L⟩) (l := l) rd1.sub hk1) rfl ?_
        rintro _ _ ⟨rfl, rfl⟩
        simp only
        refine walk ?_
        refine wp_loopS (α := Nat × List Int) [19, 77, 78, 79, 80, 81, 82, 83, 84, 85] (fun j => [(19, .int .i64 j.1)]) (fun j => Mine 3 1 (.slice o1 l.length k1) l.length (zs j.2)) (fun j => j.1 ≤ l.length ∧ j.2.length = l.length) (fun j => l.length - j.1) (0, l) agreed ⟨Nat.zero_le _, rfl⟩ ?_
        rintro ⟨j, ys⟩ g4 ⟨hj, hjl⟩
        simp only at hj hjl
        simp only [putAll]
        by_cases hlt2 : j < l.length
        · refine WP.open (by omega) ?_
          rintro bo1 sp rfl hsp
          refine walk ?_
          refine s_store (v := .int _ _) (cs' := zs (ys.set j (-77)) ++ sp) rfl rfl rfl (by simp [zs_length]; omega) ?_ ?_
          · rw [List.set_append_left _ _ (by rw [zs_length]; omega), zs_set]
          refine walk ?_
          refine ⟨(j + 1, ys.set j (-77)), asided, agreed, ?_, ⟨hlt2, by simp [hjl]⟩, by simp only; omega⟩
          refine Ent.step (A := blk bo1 (zs (ys.set j (-77)) ++ sp) 3) (Mine.of_blk (spare := sp) rfl (by rw [zs_length, List.length_set]; omega) hk1 hkm1 ?_) (Ent.refl _)
          simpa [zs_length] using hsp
        · refine walk ?_
          (refine wp_draw [5, 6] (.look 0 (.look 1 (.look 2 (.look 3 (.look 4 (.act 5 (.act 6 (.look 7 .nil) .stop) .stop)))))) (by kernel_rfl) ?_; (apply dw_look; (· exact rfl); (· exact rfl); (· exact looked)); (apply dw_look; (· exact rfl); (· exact rfl); (· exact looked)); (apply dw_pure; (· exact rfl); (· exact rfl); (· (intro G; exact looked))); (apply dw_pure; (· exact rfl); (· exact rfl); (· (intro G; exact looked))); (apply dw_pure; (· exact rfl); (· exact rfl); (· (intro G; exact looked))); skip)
          refine dw_do0 rfl rfl ?_ dw_stop
          refine s_storeA (vs := [.int .i64 q, .slice a1 (L ++ l.take (q - L.length)).length c1]) rfl rfl rfl rfl (Nat.le_refl _) rfl ?_
          refine wpl_nil (qone0 ⟨(by (refine st_again ?_ ?_; (· exact looked)); refine st_past (by kernel_rfl) ?_; exact st_nil), ?_⟩)
          (skip)
          refine dw_do0 rfl rfl ?_ dw_stop
          refine s_storeA (vs := [.int .i64 m, .slice bo M.length bcap]) rfl rfl rfl rfl (Nat.le_refl _) rfl ?_
          refine wpl_nil (qone0 ⟨(by refine st_past (by kernel_rfl) ?_; refine st_past (by kernel_rfl) ?_; exact st_nil), ?_⟩)
          ((apply dw_pure; (· exact rfl); (· exact rfl); (· (intro G; exact looked))); refine dw_nil ?_; skip)
          refine walk ?_
          exact retR3 (.inr rfl) rfl (rv_cellA rfl Cells.blk0 rfl) (rv_cellA rfl Cells.blk0 rfl) (rv_tmp (v := .bool _) rfl) ⟨X, _, _, L ++ l.take (q - L.length), M, Ent.auto, rfl, hr1', hs'.ent (Ent.drop_left _ _), by rw [List.length_append, List.length_take]; omega, hMm⟩
      · by_cases h3 : d = 3
        · refine walk ?_
          refine s_call rfl (rGet (G := G) hr') rfl ?_
          rintro _ _ ⟨rfl, (⟨rfl, rfl⟩ | ⟨y, l', r1, rfl, rfl, hr1⟩)⟩
          · refine walk ?_
            refine s_alloc rfl ?_
            intro b20
            refine s_storeA (vs := [.int .i64 q, .slice ao ([] : List Int).length cap]) rfl rfl rfl rfl (Nat.le_refl _) rfl ?_
            refine walk ?_
            refine s_call rfl (dGet_none (p := p) (q := q)) rfl ?_
            rintro _ _ ⟨e_, rfl⟩
            obtain rfl := e_.symm
            refine walk ?_
            (refine wp_draw [10, 11] (.look 0 (.look 1 (.look 2 (.look 3 (.look 4 (.look 5 (.look 6 (.look 7 (.look 8 (.look 9 (.act 10 (.act 11 (.look 12 .nil) .stop) .stop))))))))))) (by kernel_rfl) ?_; (apply dw_look; (· exact rfl); (· exact rfl); (· exact looked)); (apply dw_look; (· exact rfl); (· exact rfl); (· exact looked)); (apply dw_pure; (· exact rfl); (· exact rfl); (· (intro G; exact looked))); (apply dw_pure; (· exact rfl); (· exact rfl); (· (intro G; exact looked))); (apply dw_pure; (· exact rfl); (· exact rfl); (· (intro G; exact looked))); (apply dw_pure; (· exact rfl); (· exact rfl); (· (intro G; exact looked))); (apply dw_pure; (· exact rfl); (· exact rfl); (· (intro G; exact looked))); (apply dw_pure; (· exact rfl); (· exact rfl); (· (intro G; exact looked))); (apply dw_pure; (· exact rfl); (· exact rfl); (· (intro G; exact looked))); (apply dw_pure; (· exact rfl); (· exact rfl); (· (intro G; exact looked))); skip)
            refine dw_do0 rfl rfl ?_ dw_stop
            refine s_storeA (vs := [.int .i64 q, .slice ao ([] : List Int).length cap]) rfl rfl rfl rfl (Nat.le_refl _) rfl ?_
            refine wpl_nil (qone0 ⟨(by (refine st_again ?_ ?_; (· exact looked)); refine st_past (by kernel_rfl) ?_; exact st_nil), ?_⟩)
            (skip)
            refine dw_do0 rfl rfl ?_ dw_stop
            refine s_storeA (vs := [.int .i64 m, .slice bo M.length bcap]) rfl rfl rfl rfl (Nat.le_refl _) rfl ?_
            refine wpl_nil (qone0 ⟨(by refine st_past (by kernel_rfl) ?_; refine st_past (by kernel_rfl) ?_; exact st_nil), ?_⟩)
            ((apply dw_pure; (· exact rfl); (· exact rfl); (· (intro G; exact looked))); refine dw_nil ?_; skip)
            refine walk ?_
            exact retR3 (.inr rfl) rfl (rv_cellA rfl Cells.blk0 rfl) (rv_cellA rfl Cells.blk0 rfl) (rv_tmp (v := .bool _) rfl) ⟨emp, _, _, [], M, Ent.auto, rfl, hr'.ent (Ent.drop_left _ _), hs'.ent (Ent.drop_left _ _), hLq, hMm⟩
          · have hr1' := hr1
            obtain ⟨a1, c1, rfl, hc1, hm1, hd1⟩ := hr1
            refine walk ?_
            refine s_alloc rfl ?_
            intro b20
            refine s_storeA (vs := [.int .i64 q, .slice a1 l'.length c1]) rfl rfl rfl rfl (Nat.le_refl _) rfl ?_
            refine walk ?_
            refine s_call rfl (dGet_cons (p := p) (q := q) (y := y) (l := l')) rfl ?_
            rintro _ _ ⟨e_, rfl⟩
            obtain rfl := e_.symm
            refine walk ?_
            (refine wp_draw [10, 11] (.look 0 (.look 1 (.look 2 (.look 3 (.look 4 (.look 5 (.look 6 (.look 7 (.look 8 (.look 9 (.act 10 (.act 11 (.look 12 .nil) .stop) .stop))))))))))) (by kernel_rfl) ?_; (apply dw_look; (· exact rfl); (· exact rfl); (· exact looked)); (apply dw_look; (· exact rfl); (· exact rfl); (· exact looked)); (apply dw_pure; (· exact rfl); (· exact rfl); (· (intro G; exact looked))); (apply dw_pure; (· exact rfl); (· exact rfl); (· (intro G; exact looked))); (apply dw_pure; (· exact rfl); (· exact rfl); (· (intro G; exact looked))); (apply dw_pure; (· exact rfl); (· exact rfl); (· (intro G; exact looked))); (apply dw_pure; (· exact rfl); (· exact rfl); (· (intro G; exact looked))); (apply dw_pure; (· exact rfl); (· exact rfl); (· (intro G; exact looked))); (apply dw_pure; (· exact rfl); (· exact rfl); (· (intro G; exact looked))); (apply dw_pure; (· exact rfl); (· exact rfl); (· (intro G; exact looked))); skip)
            refine dw_do0 rfl rfl ?_ dw_stop
            refine s_storeA (vs := [.int .i64 q, .slice a1 l'.length c1]) rfl rfl rfl rfl (Nat.le_refl _) rfl ?_
            refine wpl_nil (qone0 ⟨(by (refine st_again ?_ ?_; (· exact looked)); refine st_past (by kernel_rfl) ?_; exact st_nil), ?_⟩)
            (skip)
            refine dw_do0 rfl rfl ?_ dw_stop
            refine s_storeA (vs := [.int .i64 m, .slice bo M.length bcap]) rfl rfl rfl rfl (Nat.le_refl _) rfl ?_
            refine wpl_nil (qone0 ⟨(by refine st_past (by kernel_rfl) ?_; refine st_past (by kernel_rfl) ?_; exact st_nil), ?_⟩)
            ((apply dw_pure; (· exact rfl); (· exact rfl); (· (intro G; exact looked))); refine dw_nil ?_; skip)
            refine walk ?_
            exact retR3 (.inr rfl) rfl (rv_cellA rfl Cells.blk0 rfl) (rv_cellA rfl Cells.blk0 rfl) (rv_tmp (v := .bool _) rfl) ⟨emp, _, _, l', M, Ent.auto, rfl, hr1'.ent (Ent.drop_left _ _), hs'.ent (Ent.drop_left _ _), by simp at hLq; omega, hMm⟩
        · by_cases h4 : d = 4
          · refine walk ?_
            refine s_call rfl (rSteal (G := G) hr') rfl ?_
            rintro _ _ ⟨rfl, r1, a2, c2, rfl, hc2, hcm2, hr1, hd2⟩
            have hr1' := hr1
            obtain ⟨a1, c1, rfl, hc1, hm1, hd1⟩ := hr1
            have htl : (L.take (older L)).length = older L := by rw [List.length_take]; unfold older; omega
            refine walk ?_
            refine s_alloc rfl ?_
            intro b20
            refine s_storeA (vs := [.int .i64 q, .slice a1 (L.drop (older L)).length c1]) rfl rfl rfl rfl (Nat.le_refl _) rfl ?_
            refine walk ?_
            (refine wp_draw [3, 5, 6, 7] (.look 0 (.look 1 (.look 2 (.look 4 (.act 3 (.act 5 (.act 6 (.act 7 (.look 8 .nil) .stop) .stop) .stop) .stop))))) (by kernel_rfl) ?_; (apply dw_look; (· exact rfl); (· exact rfl); (· exact looked)); (apply dw_look; (· exact rfl); (· exact rfl); (· exact looked)); (apply dw_pure; (· exact rfl); (· exact rfl); (· (intro G; exact looked))); (apply dw_pure; (· exact rfl); (· exact rfl); (· (intro G; exact looked))); skip)
            refine dw_do rfl rfl ?_ dw_stop
            refine s_call rfl (dSteal (p := p) (x := ⟨q, L⟩)) rfl ?_
            rintro v1 _ rfl
            simp only
            refine wpl_nil (qone ⟨(by (refine st_again ?_ ?_; (· exact looked)); (refine st_again ?_ ?_; (· exact looked)); exact st_nil), ?_⟩)
            (skip)
            refine dw_do rfl rfl ?_ dw_stop
            refine s_call rfl (row_sameN (s := v1) (xs := L.take (older L)) htl hd2.sub) rfl ?_
            rintro _ _ ⟨e_, rfl⟩
            obtain rfl := e_.symm
            refine wpl_nil (qone ⟨(by (refine st_again ?_ ?_; (· exact looked)); (refine st_again ?_ ?_; (· exact looked)); exact st_nil), ?_⟩)
            (skip)
            refine dw_do0 rfl rfl ?_ dw_stop
            refine s_storeA (vs := [.int .i64 q, .slice a1 (L.drop (older L)).length c1]) rfl rfl rfl rfl (Nat.le_refl _) rfl ?_
            refine wpl_nil (qone0 ⟨(by (refine st_again ?_ ?_; (· exact looked)); refine st_past (by kernel_rfl) ?_; exact st_nil), ?_⟩)
            (skip)
            refine dw_do0 rfl rfl ?_ dw_stop
            refine s_storeA (vs := [.int .i64 m, .slice bo M.length bcap]) rfl rfl rfl rfl (Nat.le_refl _) rfl ?_
            refine wpl_nil (qone0 ⟨(by refine st_past (by kernel_rfl) ?_; refine st_past (by kernel_rfl) ?_; exact st_nil), ?_⟩)
            ((apply dw_pure; (· exact rfl); (· exact rfl); (· (intro G; exact looked))); refine dw_nil ?_; skip)
            refine walk ?_
            exact retR3 (.inr rfl) rfl (rv_cellA rfl Cells.blk0 rfl) (rv_cellA rfl Cells.blk0 rfl) (rv_tmp (v := .bool _) rfl) ⟨emp, _, _, L.drop (older L), M, Ent.auto, rfl, hr1'.ent (Ent.drop_left _ _), hs'.ent (Ent.drop_left _ _), by rw [List.length_drop]; omega, hMm⟩
          · by_cases h5 : d = 5
            · have hlen := moveQ_len hLq hMm
              refine walk ?_
              refine s_call rfl (rMove (G := G) hr' hs' (by omega) hMm) rfl ?_
              rintro _ _ ⟨X, r1, r2, rfl, rfl, hr1, hr2⟩
              generalize hmv : moveQ m L M = mv at hr1 hr2 hlen
              obtain ⟨A1, A2, gg2, okk⟩ := mv
              simp only at hr1 hr2 hlen
              have hr1' := hr1
              have hr2' := hr2
              obtain ⟨a1, c1, rfl, hc1, hm1, hd1⟩ := hr1
              obtain ⟨a2, c2, rfl, hc2, hm2, hd2⟩ := hr2
              simp only
              refine walk ?_
              refine s_alloc rfl ?_
              intro b27
              refine walk ?_
              refine s_alloc rfl ?_
              intro b28
              refine s_storeA (vs := [.int .i64 q, .slice a1 A1.length c1]) rfl rfl rfl rfl (Nat.le_refl _) rfl ?_
              refine s_storeA (vs := [.int .i64 m, .slice a2 A2.length c2]) rfl rfl rfl rfl (Nat.le_refl _) rfl ?_
              refine walk ?_
              refine s_call rfl (dMoveQ (p := p) (p' := p') (q := q) (m := m) (L := L) (M := M)) rfl ?_
              rintro _ _ ⟨rfl, rfl⟩
              rw [hmv]
              simp only
              refine walk ?_
              (refine wp_draw [10, 11] (.look 0 (.look 1 (.look 2 (.look 3 (.look 4 (.look 5 (.look 6 (.look 7 (.look 8 (.look 9 (.act 10 (.act 11 (.look 12 .nil) .stop) .stop))))))))))) (by kernel_rfl) ?_; (apply dw_look; (· exact rfl); (· exact rfl); (· exact looked)); (apply dw_look; (· exact rfl); (· exact rfl); (· exact looked)); (apply dw_pure; (· exact rfl); (· exact rfl); (· (intro G; exact looked))); (apply dw_pure; (· exact rfl); (· exact rfl); (· (intro G; exact looked))); (apply dw_pure; (· exact rfl); (· exact rfl); (· (intro G; exact looked))); (apply dw_pure; (· exact rfl); (· exact rfl); (· (intro G; exact looked))); (apply dw_pure; (· exact rfl); (· exact rfl); (· (intro G; exact looked))); (apply dw_pure; (· exact rfl); (· exact rfl); (· (intro G; exact looked))); (apply dw_pure; (· exact rfl); (· exact rfl); (· (intro G; exact looked))); (apply dw_pure; (· exact rfl); (· exact rfl); (· (intro G; exact looked))); skip)
              refine dw_do0 rfl rfl ?_ dw_stop
              refine s_storeA (vs := [.int .i64 q, .slice a1 A1.length c1]) rfl rfl rfl rfl (Nat.le_refl _) rfl ?_
              refine wpl_nil (qone0 ⟨(by (refine st_again ?_ ?_; (· exact looked)); refine st_past (by kernel_rfl) ?_; exact st_nil), ?_⟩)
              (skip)
              refine dw_do0 rfl rfl ?_ dw_stop
              refine s_storeA (vs := [.int .i64 m, .slice a2 A2.length c2]) rfl rfl rfl rfl (Nat.le_refl _) rfl ?_
              refine wpl_nil (qone0 ⟨(by refine st_past (by kernel_rfl) ?_; refine st_past (by kernel_rfl) ?_; exact st_nil), ?_⟩)
              ((apply dw_pure; (· exact rfl); (· exact rfl); (· (intro G; exact looked))); refine dw_nil ?_; skip)
              refine walk ?_
              exact retR3 (.inr rfl) rfl (rv_cellA rfl Cells.blk0 rfl) (rv_cellA rfl Cells.blk0 rfl) (rv_tmp (v := .bool _) rfl) ⟨X, _, _, A1, A2, Ent.auto, rfl, hr1'.ent (Ent.refl _), hr2'.ent (Ent.refl _), hlen.1, hlen.2⟩
            · by_cases h6 : d = 6
              · have hlen := moveQ_len hMm hLq
                refine walk ?_
                refine s_call rfl (rMove (G := G) hs' hr' (by omega) hLq) rfl ?_
                rintro _ _ ⟨X, r1, r2, rfl, rfl, hr1, hr2⟩
                generalize hmv : moveQ q M L = mv at hr1 hr2 hlen
                obtain ⟨A1, A2, gg2, okk⟩ := mv
                simp only at hr1 hr2 hlen
                have hr1' := hr1
                have hr2' := hr2
                obtain ⟨a1, c1, rfl, hc1, hm1, hd1⟩ := hr1
                obtain ⟨a2, c2, rfl, hc2, hm2, hd2⟩ := hr2
                simp only
                refine walk ?_
                refine s_alloc rfl ?_
                intro b27
                refine walk ?_
                refine s_alloc rfl ?_
                intro b28
                refine s_storeA (vs := [.int .i64 m, .slice a1 A1.length c1]) rfl rfl rfl rfl (Nat.le_refl _) rfl ?_
                refine s_storeA (vs := [.int .i64 q, .slice a2 A2.length c2]) rfl rfl rfl rfl (Nat.le_refl _) rfl ?_
                refine walk ?_
                refine s_call rfl (dMoveQ (p := p') (p' := p) (q := m) (m := q) (L := M) (M := L)) rfl ?_
                rintro _ _ ⟨rfl, rfl⟩
                rw [hmv]
                simp only
                refine walk ?_
                (refine wp_draw [10, 11] (.look 0 (.look 1 (.look 2 (.look 3 (.look 4 (.look 5 (.look 6 (.look 7 (.look 8 (.look 9 (.act 10 (.act 11 (.look 12 .nil) .stop) .stop))))))))))) (by kernel_rfl) ?_; (apply dw_look; (· exact rfl); (· exact rfl); (· exact looked)); (apply dw_look; (· exact rfl); (· exact rfl); (· exact looked)); (apply dw_pure; (· exact rfl); (· exact rfl); (· (intro G; exact looked))); (apply dw_pure; (· exact rfl); (· exact rfl); (· (intro G; exact looked))); (apply dw_pure; (· exact rfl); (· exact rfl); (· (intro G; exact looked))); (apply dw_pure; (· exact rfl); (· exact rfl); (· (intro G; exact looked))); (apply dw_pure; (· exact rfl); (· exact rfl); (· (intro G; exact looked))); (apply dw_pure; (· exact rfl); (· exact rfl); (· (intro G; exact looked))); (apply dw_pure; (· exact rfl); (· exact rfl); (· (intro G; exact looked))); (apply dw_pure; (· exact rfl); (· exact rfl); (· (intro G; exact looked))); skip)
                refine dw_do0 rfl rfl ?_ dw_stop
                refine s_storeA (vs := [.int .i64 q, .slice a2 A2.length c2]) rfl rfl rfl rfl (Nat.le_refl _) rfl ?_
                refine wpl_nil (qone0 ⟨(by (refine st_again ?_ ?_; (· exact looked)); refine st_past (by kernel_rfl) ?_; exact st_nil), ?_⟩)
                (skip)
                refine dw_do0 rfl rfl ?_ dw_stop
                refine s_storeA (vs := [.int .i64 m, .slice a1 A1.length c1]) rfl rfl rfl rfl (Nat.le_refl _) rfl ?_
                refine wpl_nil (qone0 ⟨(by refine st_past (by kernel_rfl) ?_; refine st_past (by kernel_rfl) ?_; exact st_nil), ?_⟩)
                ((apply dw_pure; (· exact rfl); (· exact rfl); (· (intro G; exact looked))); refine dw_nil ?_; skip)
                refine walk ?_
                exact retR3 (.inr rfl) rfl (rv_cellA rfl Cells.blk0 rfl) (rv_cellA rfl Cells.blk0 rfl) (rv_tmp (v := .bool _) rfl) ⟨X, _, _, A2, A1, Ent.auto, rfl, hr2'.ent (Ent.refl _), hr1'.ent (Ent.refl _), hlen.2, hlen.1⟩
              · refine walk ?_
                refine s_call rfl (dMove_self (p := p) (x := ⟨q, L⟩)) rfl ?_
                rintro _ _ ⟨rfl, rfl⟩
                refine walk ?_
                (refine wp_draw [8, 9] (.look 0 (.look 1 (.look 2 (.look 3 (.look 4 (.look 5 (.look 6 (.look 7 (.act 8 (.act 9 (.look 10 .nil) .stop) .stop))))))))) (by kernel_rfl) ?_; (apply dw_look; (· exact rfl); (· exact rfl); (· exact looked)); (apply dw_look; (· exact rfl); (· exact rfl); (· exact looked)); (apply dw_pure; (· exact rfl); (· exact rfl); (· (intro G; exact looked))); (apply dw_pure; (· exact rfl); (· exact rfl); (· (intro G; exact looked))); (apply dw_pure; (· exact rfl); (· exact rfl); (· (intro G; exact looked))); (apply dw_pure; (· exact rfl); (· exact rfl); (· (intro G; exact looked))); (apply dw_pure; (· exact rfl); (· exact rfl); (· (intro G; exact looked))); (apply dw_pure; (· exact rfl); (· exact rfl); (· (intro G; exact looked))); skip)
                refine dw_do0 rfl rfl ?_ dw_stop
                refine s_storeA (vs := [.int .i64 q, .slice ao L.length cap]) rfl rfl rfl rfl (Nat.le_refl _) rfl ?_
                refine wpl_nil (qone0 ⟨(by (refine st_again ?_ ?_; (· exact looked)); refine st_past (by kernel_rfl) ?_; exact st_nil), ?_⟩)
                (skip)
                refine dw_do0 rfl rfl ?_ dw_stop
                refine s_storeA (vs := [.int .i64 m, .slice bo M.length bcap]) rfl rfl rfl rfl (Nat.le_refl _) rfl ?_
                refine wpl_nil (qone0 ⟨(by refine st_past (by kernel_rfl) ?_; refine st_past (by kernel_rfl) ?_; exact st_nil), ?_⟩)
                ((apply dw_pure; (· exact rfl); (· exact rfl); (· (intro G; exact looked))); refine dw_nil ?_; skip)
                refine walk ?_
                exact retR3 (.inr rfl) rfl (rv_cellA rfl Cells.blk0 rfl) (rv_cellA rfl Cells.blk0 rfl) (rv_tmp (v := .bool _) rfl) ⟨emp, _, _, L, M, Ent.auto, rfl, hr'.ent (Ent.drop_left _ _), hs'.ent (Ent.drop_left _ _), hLq, hMm⟩
end
end Go.Proofs.Ytcnpcmdcbafaeaa
