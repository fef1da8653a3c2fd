/- The law: never more ahead than there were. No condition. -/
import Derived.Test.YtcnpcmdcbafaeaaDAhead
namespace Go.Proofs.Ytcnpcmdcbafaeaa
open Go Go.SL
set_option linter.unusedSimpArgs false
set_option linter.unusedVariables false
set_option maxRecDepth 10000
set_option maxHeartbeats 4000000
attribute [local irreducible] WP WPL QSeq QBlk QRet Does Cell Cells Rd Mine Ent Aside RV DqX DqAt Yield
section
variable {B : World} {F H G : HProp} {p : Nat}
theorem dAheadL {q : Nat} {L : List Int} {g : Int} [HasAt DqAt H p ⟨q, L⟩ F] : Does Try.prog B 17 [ptr p, .int .i64 g] H fun r H' => H' = H ∧ r = .int .i64 (ahead g L) := dAhead (p := p) (x := ⟨q, L⟩)
theorem moves_spec {q i : Nat} {L : List Int} {p' : Nat} (hq : isRoom q = true) (hf : Fresh q i L) [a : HasAt DqAt H p ⟨q, L⟩ F] [b : HasAt DqAt F p' ⟨q, []⟩ G] : Does Try.prog B 16 [ptr p, ptr p'] H fun r H' =>
    ∃ g L3 M, H' = DqAt p ⟨q, L3⟩ + (DqAt p' ⟨q, M⟩ + G) ∧ r = .tuple #[.int .i64 g, .bool (decide (0 < L.length))] ∧ Fresh q (i + 1) L3 ∧ Keeps L L3 ∧
      ∀ (k : Nat) (x : Int), M[k]? = some x → ahead x M = k ∧ ahead x L = k + 1 ∧ k < q / 2 := by
  have heven := room_even hq
  cases L with
  | nil =>
    refine (dMove_no (p := p) (p' := p') (x := ⟨q, []⟩) (y := ⟨q, []⟩) (.inl rfl)).weak fun r H1 ⟨e, er⟩ => ⟨H1, Ent.refl _, 0, [], [], ?_, er, Fresh.nil q _, Keeps.same _, by simp⟩
    rw [e, a.eq, b.eq]
  | cons y L =>
    refine (dMove (p := p) (p' := p') (x := ⟨q, y :: L⟩) (y := ⟨q, []⟩) rfl rfl).weak fun r H1 ⟨e, er⟩ => ⟨H1, Ent.refl _, y, _, _, e, er, hf.sub (List.drop_sublist _ _), Keeps.drop hf.nodup _, ?_⟩
    have hold2 : older (y :: L) ≤ q / 2 := by have := hf.len; unfold older; omega
    refine fun k x hk => moved_ahead hf.nodup hf.len heven ?_ hk
    exact List.take_of_length_le (by rw [List.length_drop, List.length_take]; show min (older (y :: L)) (y :: L).length - 1 ≤ q; omega)
theorem ahead_early {n : Int} {s : Value} {l : List Int} (hs : Rd B F 1 s l.length (zs l)) (h : 150 < l.length) : Does Try.prog B 4 [.int .u8 n, s] F fun r H' => Ent H' F ∧ r = .bool true := by
  unfold Rd at hs
  obtain ⟨ao, cap, rfl, _, hm, _⟩ := hs
  refine fn_intro 146 Try.func4 rfl rfl rfl ?_
  refine walk ?_
  refine s_call rfl (works_spec) rfl ?_
  rintro _ _ ⟨e_, rfl⟩
  obtain rfl := e_.symm
  refine walk ?_
  exact ret1 (v := .bool _) (.inr rfl) rfl rfl ⟨Ent.refl _, rfl⟩
theorem ahead_main {n : Int} {s : Value} {l : List Int} (hn : 0 ≤ n ∧ n ≤ 255) (hs : Rd B F 1 s l.length (zs l)) (h : l.length ≤ 150) : Does Try.prog B 4 [.int .u8 n, s] F fun r H' => Ent H' F ∧ r = .bool true := by
  unfold Rd at hs
  obtain ⟨ao, cap, rfl, hl, hm, hal⟩ := hs
  obtain ⟨k, hk⟩ := Int.eq_ofNat_of_zero_le (show 0 ≤ n % 6 by omega)
  have hk6 : k < 6 := by omega
  have hroom : isRoom (2 ^ (k + 1)) = true := isRoom_pow (by omega) (by omega)
  have hsh : IntKind.i64.wrap (2 * 2 ^ (min (n % 6).toNat IntKind.i64.bits)) = ((2 ^ (k + 1) : Nat) : Int) := by
    rw [hk]
    have : k = 0 ∨ k = 1 ∨ k = 2 ∨ k = 3 ∨ k = 4 ∨ k = 5 := by omega
    rcases this with rfl | rfl | rfl | rfl | rfl | rfl <;> decide
  generalize 2 ^ (k + 1) = q at hroom hsh
  have hq := room_bound hroom
  have heven := room_even hroom
  refine fn_intro 146 Try.func4 rfl rfl rfl ?_
  refine walk ?_
  refine s_shl rfl rfl (by omega) hsh rfl ?_
  refine walk ?_
  refine s_call rfl (dNew (q := q) (l := []) hroom Rd.nil (by simp)) rfl ?_
  rintro _ _ ⟨p, rfl, rfl⟩
  refine walk ?_
  rw [List.take_nil]
  refine wp_loopF (α := Nat × List Int) [4, 8, 9, 10, 11, 12, 13, 14, 15, 16, 17, 18, 19, 34, 35, 36, 37, 38, 39, 40, 41, 42, 43, 44, 45, 46, 47, 48, 49, 50, 51, 52, 53, 54, 55, 56, 57, 58, 59, 60, 61, 62, 63, 64, 65, 66, 67, 68, 69, 70, 71, 72, 73, 74, 75, 76, 77, 78, 79, 80, 81, 82, 83, 84, 85, 86, 87, 88, 89, 90, 91, 92, 93, 94, 95, 96, 97, 98, 99, 100, 101, 102, 103, 104, 105, 106, 107, 108, 109, 110, 111, 112, 113, 114, 115, 116, 117, 118, 119, 120, 121, 122, 123, 124, 125, 126, 127, 128, 129, 130, 131, 132, 133, 134, 135, 136, 137, 138, 139, 140, 141, 142, 143, 144] (fun x => [(8, .int .i64 x.1)]) (fun x => DqAt p ⟨q, x.2⟩ + F)
    (fun x => x.1 ≤ l.length ∧ Fresh q x.1 x.2) (fun x => l.length - x.1) (0, []) agreed (Ent.refl _) ⟨Nat.zero_le _, Fresh.nil q 0⟩ ?_
  rintro ⟨i, L⟩ g0 ⟨hi, hf⟩
  simp only at hi hf
  simp only [putAll]
  have hLq := hf.len
  by_cases hlt : i < l.length
  · obtain ⟨bl, ol, rfl, hcl⟩ := Rd.addr hl hal hlt
    refine walk ?_
    refine s_call rfl (dAll (p := p)) rfl ?_
    rintro w _ rfl
    refine walk ?_
    simp only
    refine WPL.shape ?_
    rintro aw cw rfl _ hcw hmw
    refine WPL.rd fun rdw => ?_
    have rdw' := rdw
    unfold Rd at rdw'
    obtain ⟨_, _, hv, hlw, _, halw⟩ := rdw'
    cases hv
    refine walk ?_
    refine s_call rfl (pick_spec (i := l[i]) (n := 5) (by omega)) rfl ?_
    rintro _ _ ⟨e_, rfl⟩
    obtain rfl := e_.symm
    refine wpl_nil_seq ?_
    refine wp_cut_here (α := List Int × List Int × Value) [4, 8, 9, 10, 11, 12, 13, 14, 15, 16, 17, 18, 19, 34, 35, 36, 37, 38, 39, 40, 41, 42, 43, 44, 45, 46, 47, 48, 49, 50, 51, 52, 53, 54, 55, 56, 57, 58, 59, 60, 61, 62, 63, 64, 65, 66, 67, 68, 69, 70, 71, 72, 73, 74, 75, 76, 77, 78, 79, 80, 81, 82, 83, 84, 85, 86, 87, 88, 89, 90, 91, 92, 93, 94, 95, 96, 97, 98, 99, 100, 101, 102, 103, 104, 105, 106, 107, 108, 109, 110, 111, 112, 113, 114, 115, 116, 117, 118, 119, 120, 121, 122, 123, 124, 125, 126, 127, 128, 129, 130, 131, 132, 133, 134, 135, 136, 137, 138, 139, 140, 141, 142, 143, 144] (fun z => [(8, .int .i64 i), (9, .slice aw L.length cw), (10, z.2.2)])
      (fun z => DqAt p ⟨q, z.1⟩ + (Mine 3 1 z.2.2 z.2.1.length (zs z.2.1) + (Mine 3 1 (.slice aw L.length cw) L.length (zs L) + F)))
      (fun z => Fresh q (i + 1) z.1 ∧ Keeps L z.1 ∧ Younger q L z.2.1) ?_ ?_
    · have ha : l[i] % 5 = 0 ∨ l[i] % 5 = 1 ∨ l[i] % 5 = 2 ∨ l[i] % 5 = 3 ∨ l[i] % 5 = 4 := by omega
      rcases ha with ha | ha | ha | ha | ha
      · skip
        refine walk ?_
        refine s_call rfl (dPut (p := p) (g := i)) rfl ?_
        rintro v1 _ rfl
        refine walk ?_
        exact ⟨((putD q L i).2, (putD q L i).1, v1), asided, agreed, Ent.auto, hf.put⟩
      · skip
        refine walk ?_
        refine s_call rfl (dPut (p := p) (g := i)) rfl ?_
        rintro v1 _ rfl
        refine walk ?_
        exact ⟨((putD q L i).2, (putD q L i).1, v1), asided, agreed, Ent.auto, hf.put⟩
      · skip
        refine walk ?_
        refine s_call rfl (dPut (p := p) (g := i)) rfl ?_
        rintro v1 _ rfl
        refine walk ?_
        exact ⟨((putD q L i).2, (putD q L i).1, v1), asided, agreed, Ent.auto, hf.put⟩
      · refine walk ?_
        refine s_call rfl (dGet (p := p)) rfl ?_
        rintro _ _ (⟨hL, rfl, rfl⟩ | ⟨y, L', hL, rfl, rfl⟩)
        · refine walk ?_
          refine ⟨(L, [], .slice none 0 0), asided, agreed, ?_, hf.sub (List.Sublist.refl L), Keeps.same L, Younger.nil q L⟩
          show Ent _ (DqAt p ⟨q, L⟩ + (Mine 3 1 (.slice none 0 0) 0 [] + _))
          rw [Mine.nil, HProp.emp_add]
          exact Ent.auto
        · simp only at hL
          subst hL
          refine walk ?_
          refine ⟨(L', [], .slice none 0 0), asided, agreed, ?_, hf.sub (List.sublist_cons_self y L'), Keeps.drop hf.nodup 1, Younger.nil q _⟩
          show Ent _ (DqAt p ⟨q, L'⟩ + (Mine 3 1 (.slice none 0 0) 0 [] + _))
          rw [Mine.nil, HProp.emp_add]
          exact Ent.auto
      · refine walk ?_
        refine s_call rfl (dNew (q := q) (l := []) hroom Rd.nil (by simp)) rfl ?_
        rintro _ _ ⟨p2, rfl, rfl⟩
        refine walk ?_
        rw [List.take_nil]
        refine s_call rfl (dCopy (p := p)) rfl ?_
        rintro _ _ ⟨p3, rfl, rfl⟩
        refine walk ?_
        refine s_call rfl (moves_spec (p := p) (p' := p2) hroom hf) rfl ?_
        rintro _ _ ⟨g, L3, M, rfl, rfl, hf3, hk3, hM⟩
        have hdec : (0 < L.length ∧ decide (0 < L.length) = true) ∨ (L.length = 0 ∧ decide (0 < L.length) = false) := by
          by_cases h0 : 0 < L.length
          · exact .inl ⟨h0, decide_eq_true h0⟩
          · exact .inr ⟨by omega, decide_eq_false h0⟩
        rcases hdec with ⟨h0, hd⟩ | ⟨h0, hd⟩
        · rw [hd]
          refine walk ?_
          refine s_call rfl (dAll (p := p2)) rfl ?_
          rintro w2 _ rfl
          refine walk ?_
          simp only
          refine WP.shape ?_
          rintro am cm rfl _ hcm hmm
          refine WP.rd fun rdm => ?_
          unfold Rd at rdm
          obtain ⟨_, _, hv, hlm, _, halm⟩ := rdm
          cases hv
          refine walk ?_
          refine wp_loopR (α := Nat) [4, 17, 69, 70, 71, 72, 73, 74, 75, 76, 77, 78, 79, 80, 81, 82, 83, 84, 85, 86, 87, 88, 89, 90, 91, 92, 93, 94, 95, 96, 97, 98] (fun k => [(17, .int .i64 k)]) (fun k => k ≤ M.length) (fun k => M.length - k) 0 agreed (Nat.zero_le _) ?_
          rintro km g3 hkm
          simp only [putAll]
          by_cases hltm : km < M.length
          · obtain ⟨bm, om, rfl, hcM⟩ := Rd.addr hlm halm hltm
            obtain ⟨a1, a2, a3⟩ := hM km M[km] (List.getElem?_eq_getElem hltm)
            have hcell := hcM.cell (zs_get M km hltm)
            refine walk ?_
            (refine wp_draw [5, 11, 19] (.look 0 (.look 1 (.look 2 (.look 3 (.look 4 (.look 6 (.look 7 (.look 8 (.look 9 (.look 10 (.act 5 (.act 11 (.look 12 (.look 13 (.look 14 (.look 15 (.look 16 (.look 17 (.look 18 (.look 20 (.look 21 (.act 19 (.look 22 (.look 23 .nil)) .stop)))))))))) .stop) .stop))))))))))) (by kernel_rfl) ?_; (apply dw_pure; (· exact rfl); (· exact rfl); (· (intro G; exact looked))); (apply dw_pure; (· exact rfl); (· exact rfl); (· (intro G; exact looked))); (apply dw_pure; (· exact rfl); (· exact rfl); (· (intro G; exact looked))); (apply dw_pure; (· exact rfl); (· exact rfl); (· (intro G; exact looked))); (apply dw_look; (· exact rfl); (· exact rfl); (· exact looked)); (apply dw_pure; (· exact rfl); (· exact rfl); (· (intro G; exact looked))); (apply dw_pure; (· exact rfl); (· exact rfl); (· (intro G; exact looked))); (apply dw_pure; (· exact rfl); (· exact rfl); (· (intro G; exact looked))); (apply dw_pure; (· exact rfl); (· exact rfl); (· (intro G; exact looked))); (apply dw_look; (· exact rfl); (· exact rfl); (· exact looked)); skip)
            refine dw_do rfl rfl ?_ dw_stop
            refine s_call rfl (dAheadL (p := p2) (g := M[km])) rfl ?_
            rintro _ _ ⟨e_, rfl⟩
            obtain rfl := e_.symm
            refine wpl_nil (qone ⟨(by (refine st_again ?_ ?_; (· exact looked)); refine st_past (by kernel_rfl) ?_; exact st_nil), ?_⟩)
            (skip)
            refine dw_do rfl rfl ?_ dw_stop
            refine s_call rfl (dAheadL (p := p3) (g := M[km])) rfl ?_
            rintro _ _ ⟨e_, rfl⟩
            obtain rfl := e_.symm
            refine wpl_nil (qone ⟨(by refine st_past (by kernel_rfl) ?_; refine st_past (by kernel_rfl) ?_; exact st_nil), ?_⟩)
            ((apply dw_pure; (· exact rfl); (· exact rfl); (· (intro G; exact looked))); (apply dw_pure; (· exact rfl); (· exact rfl); (· (intro G; exact looked))); (apply dw_pure; (· exact rfl); (· exact rfl); (· (intro G; exact looked))); (apply dw_pure; (· exact rfl); (· exact rfl); (· (intro G; exact looked))); (apply dw_pure; (· exact rfl); (· exact rfl); (· (intro G; exact looked))); (apply dw_pure; (· exact rfl); (· exact rfl); (· (intro G; exact looked))); (apply dw_look; (· exact rfl); (· exact rfl); (· exact looked)); (apply dw_pure; (· exact rfl); (· exact rfl); (· (intro G; exact looked))); (apply dw_pure; (· exact rfl); (· exact rfl); (· (intro G; exact looked))); skip)
            refine dw_do rfl rfl ?_ dw_stop
            refine walk ?_
            refine s_call rfl (dAheadL (p := p2) (g := M[km])) rfl ?_
            rintro _ _ ⟨e_, rfl⟩
            obtain rfl := e_.symm
            refine wpl_nil (qone ⟨(by refine st_past (by kernel_rfl) ?_; refine st_past (by kernel_rfl) ?_; refine st_past (by kernel_rfl) ?_; exact st_nil), ?_⟩)
            ((apply dw_pure; (· exact rfl); (· exact rfl); (· (intro G; exact looked))); (apply dw_pure; (· exact rfl); (· exact rfl); (· (intro G; exact looked))); refine dw_nil ?_; skip)
            refine walk ?_
            exact ⟨km + 1, asided, agreed, Ent.refl _, hltm, by omega⟩
          · refine walk ?_
            refine ⟨(L3, [], .slice none 0 0), asided, agreed, ?_, hf3, hk3, Younger.nil q _⟩
            show Ent _ (DqAt p ⟨q, L3⟩ + (Mine 3 1 (.slice none 0 0) 0 [] + _))
            rw [Mine.nil, HProp.emp_add]
            exact Ent.auto
        · rw [hd]
          refine walk ?_
          refine s_call rfl (dAll (p := p2)) rfl ?_
          rintro w2 _ rfl
          refine walk ?_
          simp only
          refine WP.shape ?_
          rintro am cm rfl _ hcm hmm
          refine WP.rd fun rdm => ?_
          unfold Rd at rdm
          obtain ⟨_, _, hv, hlm, _, halm⟩ := rdm
          cases hv
          refine walk ?_
          refine wp_loopR (α := Nat) [4, 17, 69, 70, 71, 72, 73, 74, 75, 76, 77, 78, 79, 80, 81, 82, 83, 84, 85, 86, 87, 88, 89, 90, 91, 92, 93, 94, 95, 96, 97, 98] (fun k => [(17, .int .i64 k)]) (fun k => k ≤ M.length) (fun k => M.length - k) 0 agreed (Nat.zero_le _) ?_
          rintro km g3 hkm
          simp only [putAll]
          by_cases hltm : km < M.length
          · obtain ⟨bm, om, rfl, hcM⟩ := Rd.addr hlm halm hltm
            obtain ⟨a1, a2, a3⟩ := hM km M[km] (List.getElem?_eq_getElem hltm)
            have hcell := hcM.cell (zs_get M km hltm)
            refine walk ?_
            (refine wp_draw [5, 11, 19] (.look 0 (.look 1 (.look 2 (.look 3 (.look 4 (.look 6 (.look 7 (.look 8 (.look 9 (.look 10 (.act 5 (.act 11 (.look 12 (.look 13 (.look 14 (.look 15 (.look 16 (.look 17 (.look 18 (.look 20 (.look 21 (.act 19 (.look 22 (.look 23 .nil)) .stop)))))))))) .stop) .stop))))))))))) (by kernel_rfl) ?_; (apply dw_pure; (· exact rfl); (· exact rfl); (· (intro G; exact looked))); (apply dw_pure; (· exact rfl); (· exact rfl); (· (intro G; exact looked))); (apply dw_pure; (· exact rfl); (· exact rfl); (· (intro G; exact looked))); (apply dw_pure; (· exact rfl); (· exact rfl); (· (intro G; exact looked))); (apply dw_look; (· exact rfl); (· exact rfl); (· exact looked)); (apply dw_pure; (· exact rfl); (· exact rfl); (· (intro G; exact looked))); (apply dw_pure; (· exact rfl); (· exact rfl); (· (intro G; exact looked))); (apply dw_pure; (· exact rfl); (· exact rfl); (· (intro G; exact looked))); (apply dw_pure; (· exact rfl); (· exact rfl); (· (intro G; exact looked))); (apply dw_look; (· exact rfl); (· exact rfl); (· exact looked)); skip)
            refine dw_do rfl rfl ?_ dw_stop
            refine s_call rfl (dAheadL (p := p2) (g := M[km])) rfl ?_
            rintro _ _ ⟨e_, rfl⟩
            obtain rfl := e_.symm
            refine wpl_nil (qone ⟨(by (refine st_again ?_ ?_; (· exact looked)); refine st_past (by kernel_rfl) ?_; exact st_nil), ?_⟩)
            (skip)
            refine dw_do rfl rfl ?_ dw_stop
            refine s_call rfl (dAheadL (p := p3) (g := M[km])) rfl ?_
            rintro _ _ ⟨e_, rfl⟩
            obtain rfl := e_.symm
            refine wpl_nil (qone ⟨(by refine st_past (by kernel_rfl) ?_; refine st_past (by kernel_rfl) ?_; exact st_nil), ?_⟩)
            ((apply dw_pure; (· exact rfl); (· exact rfl); (· (intro G; exact looked))); (apply dw_pure; (· exact rfl); (· exact rfl); (· (intro G; exact looked))); (apply dw_pure; (· exact rfl); (· exact rfl); (· (intro G; exact looked))); (apply dw_pure; (· exact rfl); (· exact rfl); (· (intro G; exact looked))); (apply dw_pure; (· exact rfl); (· exact rfl); (· (intro G; exact looked))); (apply dw_pure; (· exact rfl); (· exact rfl); (· (intro G; exact looked))); (apply dw_look; (· exact rfl); (· exact rfl); (· exact looked)); (apply dw_pure; (· exact rfl); (· exact rfl); (· (intro G; exact looked))); (apply dw_pure; (· exact rfl); (· exact rfl); (· (intro G; exact looked))); skip)
            refine dw_do rfl rfl ?_ dw_stop
            refine walk ?_
            refine s_call rfl (dAheadL (p := p2) (g := M[km])) rfl ?_
            rintro _ _ ⟨e_, rfl⟩
            obtain rfl := e_.symm
            refine wpl_nil (qone ⟨(by refine st_past (by kernel_rfl) ?_; refine st_past (by kernel_rfl) ?_; refine st_past (by kernel_rfl) ?_; exact st_nil), ?_⟩)
            ((apply dw_pure; (· exact rfl); (· exact rfl); (· (intro G; exact looked))); (apply dw_pure; (· exact rfl); (· exact rfl); (· (intro G; exact looked))); refine dw_nil ?_; skip)
            refine walk ?_
            exact ⟨km + 1, asided, agreed, Ent.refl _, hltm, by omega⟩
          · refine walk ?_
            refine ⟨(L3, [], .slice none 0 0), asided, agreed, ?_, hf3, hk3, Younger.nil q _⟩
            show Ent _ (DqAt p ⟨q, L3⟩ + (Mine 3 1 (.slice none 0 0) 0 [] + _))
            rw [Mine.nil, HProp.emp_add]
            exact Ent.auto
    · rintro ⟨L2, V, ov⟩ g2 ⟨hf2, hkeep, hyoung⟩
      simp only at hf2 hkeep hyoung
      simp only [putAll]
      refine WP.split (Mine 3 1 ov V.length (zs V)) (WP.shape ?_)
      rintro av cv rfl _ hcv hmv
      have hmv' : cv ≤ 9223372036854775807 := by simpa [maxLen] using hmv
      refine WP.rd fun rdv => ?_
      unfold Rd at rdv
      obtain ⟨_, _, hv, hlv, _, halv⟩ := rdv
      cases hv
      refine walk ?_
      refine wp_loopR (α := Nat) [4, 18, 19, 110, 111, 112, 113, 114, 115, 116, 117, 118, 119, 120, 121, 122, 123, 124, 125, 126, 127, 128, 129, 130, 131, 132, 133, 134, 135, 136, 137, 138, 139, 140, 141, 142, 143, 144] (fun k => [(18, .int .i64 k)]) (fun k => k ≤ L.length) (fun k => L.length - k) 0 agreed (Nat.zero_le _) ?_
      rintro kw g3 hkw
      simp only [putAll]
      by_cases hltw : kw < L.length
      · obtain ⟨bw, ow, rfl, hcw2⟩ := Rd.addr hlw halw hltw
        have hle := hkeep kw L[kw] (List.getElem?_eq_getElem hltw)
        refine walk ?_
        refine s_call rfl (dAheadL (p := p) (g := L[kw])) rfl ?_
        rintro _ _ ⟨e_, rfl⟩
        obtain rfl := e_.symm
        refine walk ?_
        refine wp_loopR (α := Nat) [4, 19, 124, 125, 126, 127, 128, 129, 130, 131, 132, 133, 134, 135, 136, 137, 138, 139, 140, 141, 142, 143, 144] (fun k => [(19, .int .i64 k)]) (fun k => k ≤ V.length) (fun k => V.length - k) 0 agreed (Nat.zero_le _) ?_
        rintro kv g4 hkv
        simp only [putAll]
        by_cases hltv : kv < V.length
        · obtain ⟨bv, ov, rfl, hcv2⟩ := Rd.addr hlv halv hltv
          have hcell := hcv2.cell (zs_get V kv hltv)
          have hcell2 := hcw2.cell (zs_get L kw hltw)
          by_cases he : V[kv] = L[kw]
          · have hy := hyoung kw kv L[kw] (by rw [List.getElem?_eq_getElem hltv, he]) (List.getElem?_eq_getElem hltw)
            refine walk ?_
            (refine wp_draw [] (.look 0 (.look 1 (.look 2 (.look 3 (.look 4 (.look 5 (.look 6 (.look 7 (.look 8 (.look 9 (.look 10 (.look 11 (.look 12 (.look 13 (.look 14 .nil))))))))))))))) (by kernel_rfl) ?_; (apply dw_pure; (· exact rfl); (· exact rfl); (· (intro G; exact looked))); (apply dw_pure; (· exact rfl); (· exact rfl); (· (intro G; exact looked))); (apply dw_pure; (· exact rfl); (· exact rfl); (· (intro G; exact looked))); (apply dw_look; (· exact rfl); (· exact rfl); (· exact looked)); (apply dw_pure; (· exact rfl); (· exact rfl); (· (intro G; exact looked))); (apply dw_pure; (· exact rfl); (· exact rfl); (· (intro G; exact looked))); (apply dw_pure; (· exact rfl); (· exact rfl); (· (intro G; exact looked))); (apply dw_look; (· exact rfl); (· exact rfl); (· exact looked)); (apply dw_pure; (· exact rfl); (· exact rfl); (· (intro G; exact looked))); (apply dw_pure; (· exact rfl); (· exact rfl); (· (intro G; exact looked))); (apply dw_pure; (· exact rfl); (· exact rfl); (· (intro G; exact looked))); (apply dw_pure; (· exact rfl); (· exact rfl); (· (intro G; exact looked))); (apply dw_pure; (· exact rfl); (· exact rfl); (· (intro G; exact looked))); (apply dw_pure; (· exact rfl); (· exact rfl); (· (intro G; exact looked))); (apply dw_pure; (· exact rfl); (· exact rfl); (· (intro G; exact looked))); refine dw_nil ?_)
            refine walk ?_
            exact ⟨kv + 1, asided, agreed, Ent.refl _, hltv, by omega⟩
          · refine walk ?_
            (refine wp_draw [] (.look 0 (.look 1 (.look 2 (.look 3 (.look 4 (.look 5 (.look 6 (.look 7 (.look 8 (.look 9 (.look 10 (.look 11 (.look 12 (.look 13 (.look 14 .nil))))))))))))))) (by kernel_rfl) ?_; (apply dw_pure; (· exact rfl); (· exact rfl); (· (intro G; exact looked))); (apply dw_pure; (· exact rfl); (· exact rfl); (· (intro G; exact looked))); (apply dw_pure; (· exact rfl); (· exact rfl); (· (intro G; exact looked))); (apply dw_look; (· exact rfl); (· exact rfl); (· exact looked)); (apply dw_pure; (· exact rfl); (· exact rfl); (· (intro G; exact looked))); (apply dw_pure; (· exact rfl); (· exact rfl); (· (intro G; exact looked))); (apply dw_pure; (· exact rfl); (· exact rfl); (· (intro G; exact looked))); (apply dw_look; (· exact rfl); (· exact rfl); (· exact looked)); (apply dw_pure; (· exact rfl); (· exact rfl); (· (intro G; exact looked))); (apply dw_pure; (· exact rfl); (· exact rfl); (· (intro G; exact looked))); (apply dw_pure; (· exact rfl); (· exact rfl); (· (intro G; exact looked))); (apply dw_pure; (· exact rfl); (· exact rfl); (· (intro G; exact looked))); (apply dw_pure; (· exact rfl); (· exact rfl); (· (intro G; exact looked))); (apply dw_pure; (· exact rfl); (· exact rfl); (· (intro G; exact looked))); (apply dw_pure; (· exact rfl); (· exact rfl); (· (intro G; exact looked))); refine dw_nil ?_)
            refine walk ?_
            exact ⟨kv + 1, asided, agreed, Ent.refl _, hltv, by omega⟩
        · refine walk ?_
          exact ⟨kw + 1, asided, agreed, Ent.refl _, hltw, by omega⟩
      · refine walk ?_
        exact ⟨(i + 1, L2), asided, agreed, Ent.auto, ⟨hlt, hf2⟩, by simp only; omega⟩
  · refine walk ?_
    refine s_call rfl (works_spec) rfl ?_
    rintro _ _ ⟨e_, rfl⟩
    obtain rfl := e_.symm
    refine walk ?_
    exact QRet.ent (Ent.drop_left _ _) (ret1 (v := .bool _) (.inr rfl) rfl rfl ⟨Ent.refl _, rfl⟩)
end
end Go.Proofs.Ytcnpcmdcbafaeaa
