/- The stage's theorem on semaphores. No condition. -/
import Derived.Test.YtgdeemneijpeeaaSmLaw16b
import Derived.Test.YtgdeemneijpeeaaSmRef14b
import Derived.Test.YtgdeemneijpeeaaSLWalkB
namespace Go.Proofs.Ytgdeemneijpeeaa
open Go Go.SL
set_option linter.unusedSimpArgs false
set_option linter.unusedVariables false
set_option maxRecDepth 10000
set_option maxHeartbeats 4000000
theorem getD_set (l : List Int) (k j : Nat) (v : Int) (hk : k < l.length) : (l.set k v).getD j 0 = if j = k then v else l.getD j 0 := by
  simp only [List.getD_eq_getElem?_getD, List.getElem?_set]
  by_cases h : k = j
  · subst h; simp [hk]
  · rw [if_neg h, if_neg (fun e => h e.symm)]
/-- The counts kept beside the semaphores. -/
structure GInv (S : SemS) (first : Int) (gl rl : List Int) (i : Nat) : Prop where
  lenG : gl.length = S.length
  lenR : rl.length = S.length
  bal : ∀ (k : Nat) l c, S[k]? = some (l, c) → gl.getD k 0 = first + rl.getD k 0 - c ∧ (l ≠ [] → c = 0)
  bG : ∀ k : Nat, 0 ≤ gl.getD k 0 ∧ gl.getD k 0 ≤ i
  bR : ∀ k : Nat, 0 ≤ rl.getD k 0 ∧ rl.getD k 0 ≤ i
section
variable {S : SemS} {first c c' : Int} {gl rl : List Int} {i k : Nat} {l l' : List Int} {g : Int}
theorem GInv.up (h : GInv S first gl rl i) : GInv S first gl rl (i + 1) := ⟨h.lenG, h.lenR, h.bal, fun k => by have := h.bG k; omega, fun k => by have := h.bR k; omega⟩
theorem GInv.turn (h : GInv S first gl rl i) (hs : S[k]? = some (l, c)) (a b : Int) (ha : 0 ≤ a ∧ a ≤ 1) (hb : 0 ≤ b ∧ b ≤ 1) (he : a = b - (c' - c)) (hl : l' ≠ [] → c' = 0) :
    GInv (S.set k (l', c')) first (gl.set k (gl.getD k 0 + a)) (rl.set k (rl.getD k 0 + b)) (i + 1) := by
  have hk := (List.getElem?_eq_some_iff.1 hs).1
  have hg := h.lenG
  have hr := h.lenR
  refine ⟨by simp [hg], by simp [hr], fun j l2 c2 h2 => ?_, fun j => ?_, fun j => ?_⟩
  · rw [getD_set _ _ _ _ (by omega), getD_set _ _ _ _ (by omega)]
    rw [List.getElem?_set] at h2
    split at h2
    · rename_i hkj
      subst hkj
      try rw [if_pos hk] at h2
      cases h2
      rw [if_pos rfl, if_pos rfl]
      have := (h.bal k l c hs).1
      exact ⟨by omega, hl⟩
    · rename_i hkj
      rw [if_neg (fun e => hkj e.symm), if_neg (fun e => hkj e.symm)]
      exact h.bal j l2 c2 h2
  · rw [getD_set _ _ _ _ (by omega)]
    have := h.bG k
    have := h.bG j
    split <;> omega
  · rw [getD_set _ _ _ _ (by omega)]
    have := h.bR k
    have := h.bR j
    split <;> omega
theorem set_self0 (l : List Int) (k : Nat) : l.set k (l.getD k 0 + 0) = l := by
  refine List.ext_getElem? fun j => ?_
  rw [List.getElem?_set]
  split
  · subst_vars
    split
    · rename_i h; simp [h]
    · rename_i h; rw [List.getElem?_eq_none (by omega)]
  · rfl
theorem GInv.leave (h : GInv S first gl rl i) : GInv (leaveS S g) first gl rl (i + 1) := by
  unfold leaveS
  split
  · exact h.up
  · rename_i n hw
    obtain ⟨l, c, hs, hg⟩ := where_in hw
    rw [modify_at hs]
    have h2 := (h.bal n l c hs).2 (by rintro rfl; cases hg)
    have := h.turn hs (l' := l.erase g) (c' := c) 0 0 (by omega) (by omega) (by omega) (fun _ => h2)
    rwa [set_self0, set_self0] at this
/-- Who waits at the first ones. -/
def allS (S : SemS) (m : Nat) : List Int := ((S.take m).map (·.1)).flatten
theorem allS_next {m : Nat} (h : S[m]? = some (l, c)) : allS S (m + 1) = allS S m ++ l := by
  obtain ⟨hl, e⟩ := List.getElem?_eq_some_iff.1 h
  unfold allS
  rw [List.take_succ_eq_append_getElem hl, e]
  simp
theorem allS_nd {rs : List RowC} {wm : Assoc} (hf : SemF rs wm S) : (allS S S.length).Nodup := by
  unfold allS List.Nodup
  rw [List.take_length, List.pairwise_flatten]
  refine ⟨fun l hl => ?_, ?_⟩
  · obtain ⟨⟨l', c⟩, h1, rfl⟩ := List.mem_map.1 hl
    obtain ⟨i, hi, e⟩ := List.mem_iff_getElem.1 h1
    obtain ⟨x, h, t, _, hln⟩ := hf.at_ i l' c (by rw [List.getElem?_eq_getElem hi, e])
    exact hln.nd
  · rw [List.pairwise_map, List.pairwise_iff_getElem]
    intro i j hi hj hij x hx y hy e
    subst e
    have := hf.uniq i j x ⟨S[i].1, S[i].2, List.getElem?_eq_getElem hi, hx⟩ ⟨S[j].1, S[j].2, List.getElem?_eq_getElem hj, hy⟩
    omega
end
attribute [local irreducible] WP WPL QSeq QBlk QRet Does Cell Cells Rd Mine Ent Aside RV Yield SemAt
section
variable {B : World} {F H G : HProp} {n c g : Int} {s : Value} {acts : List ActT}
theorem cell_getD {b : Nat} {l : List Int} {k : Nat} (h : k < l.length) : Cell B (blk b (zs l) 3) b k (.int .i64 (l.getD k 0)) :=
  Cell.blk (by rw [List.getD_eq_getElem?_getD, List.getElem?_eq_getElem h]; exact zs_get l k h)
theorem zeros_zs (m : Nat) : (List.replicate m [Value.int .i64 0]).flatten = zs (List.replicate m 0) := by
  induction m with
  | zero => rfl
  | succ m ih => rw [List.replicate_succ, List.flatten_cons, ih]; rfl
theorem gains_spec (hn : 0 ≤ n ∧ n ≤ 255) (hc : 0 ≤ c ∧ c ≤ 255) (hs : Rd B F 3 s acts.length (actsC acts)) : Does Try.prog B 3 [.int .u8 n, .int .u8 c, s] F fun r H' => H' = F ∧ r = .bool true := by
  unfold Rd at hs
  obtain ⟨ao, cap, rfl, hsl, hx, ha⟩ := hs
  refine fn_intro 216 Try.func3 rfl rfl rfl ?_
  by_cases hlen : acts.length ≤ 150
  · obtain ⟨m, hm⟩ := Int.eq_ofNat_of_zero_le (show 0 ≤ 1 + n % 16 by omega)
    have hm1 : 1 ≤ m := by omega
    have hm2 : m ≤ 16 := by omega
    obtain ⟨first, hfirst⟩ : ∃ x, c % 6 = x := ⟨_, rfl⟩
    have hf0 : 0 ≤ first ∧ first ≤ 5 := by omega
    refine walk ?_
    rw [hm, hfirst]
    refine walk ?_
    refine s_call rfl (sNew (n := (m : Int)) (c := first) (by omega) (by omega) (by omega)) rfl ?_
    rintro _ _ ⟨p, rfl, rfl⟩
    rw [Int.toNat_natCast]
    refine walk ?_
    refine wp_cut_here (α := Nat × Nat) [11, 12, 44, 45, 46, 47] (fun z => [(11, .slice (some ⟨z.1, 0, none⟩) m m), (12, .slice (some ⟨z.2, 0, none⟩) m m)]) (fun z => blk z.1 (zs (List.replicate m 0)) 3 + (blk z.2 (zs (List.replicate m 0)) 3 + (SemAt p (newS m first) + F))) (fun _ => True) ?_ ?_
    · skip
      (refine wp_draw [1, 3] (.look 0 (.look 2 (.act 1 (.look 4 (.act 3 (.look 5 .nil) .stop)) (.act 3 (.act 1 (.look 4 (.look 5 .nil)) .stop) .stop)))) (by kernel_rfl) ?_; (apply dw_pure; (· exact rfl); (· exact rfl); (· (intro G; exact looked))); (apply dw_pure; (· exact rfl); (· exact rfl); (· (intro G; exact looked))); skip)
      refine dw_do rfl rfl ?_ (dw_do rfl rfl ?_ dw_stop)
      · skip
        refine s_makeSlice (k := m) (c := m) rfl rfl (Nat.le_refl _) (by simp only [maxLen]; omega) rfl ?_
        intro bg
        rw [zeros_zs]
        refine wpl_nil (qone ⟨(by exact st_nil), ?_⟩)
        ((apply dw_pure; (· exact rfl); (· exact rfl); (· (intro G; exact looked))); skip)
        refine dw_do rfl rfl ?_ dw_stop
        refine s_makeSlice (k := m) (c := m) rfl rfl (Nat.le_refl _) (by simp only [maxLen]; omega) rfl ?_
        intro br
        rw [zeros_zs]
        refine wpl_nil (qone ⟨(by exact st_nil), ?_⟩)
        ((apply dw_pure; (· exact rfl); (· exact rfl); (· (intro G; exact looked))); refine dw_nil ?_; skip)
        refine walk ?_
        exact ⟨(bg, br), asided, agreed, Ent.auto, trivial⟩
      · skip
        refine s_makeSlice (k := m) (c := m) rfl rfl (Nat.le_refl _) (by simp only [maxLen]; omega) rfl ?_
        intro br
        rw [zeros_zs]
        refine wpl_nil (qone ⟨(by exact st_nil), ?_⟩)
        (skip)
        refine dw_do rfl rfl ?_ dw_stop
        refine s_makeSlice (k := m) (c := m) rfl rfl (Nat.le_refl _) (by simp only [maxLen]; omega) rfl ?_
        intro bg
        rw [zeros_zs]
        refine wpl_nil (qone ⟨(by exact st_nil), ?_⟩)
        ((apply dw_pure; (· exact rfl); (· exact rfl); (· (intro G; exact looked))); (apply dw_pure; (· exact rfl); (· exact rfl); (· (intro G; exact looked))); refine dw_nil ?_; skip)
        refine walk ?_
        exact ⟨(bg, br), asided, agreed, Ent.auto, trivial⟩
    rintro ⟨bg, br⟩ f0 _
    simp only [putAll]
    refine walk ?_
    refine wp_loopF (α := Nat × SemS × List Int × List Int) [6, 13, 14, 15, 16, 17, 18, 19, 20, 21, 22, 23, 24, 48, 49, 50, 51, 52, 53, 54, 55, 56, 57, 58, 59, 60, 61, 62, 63, 64, 65, 66, 67, 68, 69, 70, 71, 72, 73, 74, 75, 76, 77, 78, 79, 80, 81, 82, 83, 84, 85, 86, 87, 88, 89, 90, 91, 92, 93, 94, 95, 96, 97, 98, 99, 100, 101, 102, 103, 104, 105, 106, 107, 108, 109, 110, 111, 112, 113, 114, 115, 116, 117, 118, 119, 120, 121, 122, 123, 124, 125, 126, 127, 128, 129, 130, 131, 132, 133, 134, 135, 136, 137, 138, 139, 140, 141, 142, 143, 144, 145, 146, 147, 148, 149, 150, 151, 152, 153, 154, 155, 156, 157, 158, 159, 160, 161, 162, 163, 164, 165, 166, 167, 168, 169, 170, 171, 172, 173, 174, 175, 176, 177, 178, 179, 180, 181, 182, 183, 184, 185, 186, 187, 188, 189, 190, 191, 192, 193, 194, 195, 196, 197, 198, 199, 200, 201, 202, 203, 204, 205, 206, 207, 208, 209, 210, 211, 212, 213, 214] (fun x => [(13, .int .i64 x.1)]) (fun x => SemAt p x.2.1 + (blk bg (zs x.2.2.1) 3 + (blk br (zs x.2.2.2) 3 + F))) (fun x => x.1 ≤ acts.length ∧ x.2.1.length = m ∧ SOk x.2.1 x.1 ∧ GInv x.2.1 first x.2.2.1 x.2.2.2 x.1) (fun x => acts.length - x.1) (0, newS m first, List.replicate m 0, List.replicate m 0) agreed Ent.auto
      ⟨Nat.zero_le _, by simp [newS], sok_new (by omega) (by omega), ⟨by simp [newS], by simp [newS], fun k l c h => ?_, fun k => ?_, fun k => ?_⟩⟩ ?_
    · have := List.mem_of_getElem? h
      have hk := (List.getElem?_eq_some_iff.1 h).1
      rw [newS, List.mem_replicate] at this
      cases this.2
      simp only [newS, List.length_replicate] at hk
      refine ⟨?_, fun h => absurd rfl h⟩
      simp [List.getD_eq_getElem?_getD, List.getElem?_replicate, hk]
    · simp only [List.getD_eq_getElem?_getD, List.getElem?_replicate]
      split <;> simp
    · simp only [List.getD_eq_getElem?_getD, List.getElem?_replicate]
      split <;> simp
    rintro ⟨i, S, gl, rl⟩ f ⟨hi, hSm, hS, hG⟩
    simp only at hi hSm hS hG
    simp only [putAll]
    have hb : i ≤ 999999 := by omega
    have hlok := hS.lok (show i ≤ 1000000 by omega)
    by_cases hlt : i < acts.length
    · obtain ⟨bl, ol, rfl, hcl⟩ : ∃ b o, ao = some ⟨b, o, none⟩ ∧ Cells B F b o (actsC acts) := by
        rcases ha with h | h
        · rw [h] at hsl; simp at hsl; omega
        · exact h
      obtain ⟨q0, q1, q2⟩ := actsC_at acts i hlt
      have c0 : Cell B F bl (ol + i * 3) (.int .i64 acts[i].1) := hcl.cell q0
      have c00 : Cell B F bl (ol + i * 3 + 0) (.int .i64 acts[i].1) := c0
      have c1 : Cell B F bl (ol + i * 3 + 1) (.int .i64 acts[i].2.1) := hcl.cell q1
      have c2 : Cell B F bl (ol + i * 3 + 2) (.int .i64 acts[i].2.2) := hcl.cell q2
      generalize acts[i].1 = d1 at *
      generalize acts[i].2.1 = k1 at *
      generalize acts[i].2.2 = g1 at *
      clear q0 q1 q2
      refine walk ?_
      refine s_call rfl (pick_spec (i := k1) (n := (m : Int)) (by omega)) rfl ?_
      rintro _ _ ⟨e_, rfl⟩
      obtain rfl := e_.symm
      refine walk ?_
      obtain ⟨kk, hkk⟩ := Int.eq_ofNat_of_zero_le (Int.emod_nonneg k1 (show (m : Int) ≠ 0 by omega))
      have hkm : kk < m := by
        have := Int.emod_lt_of_pos k1 (show (0 : Int) < m by omega)
        omega
      rw [hkk]
      obtain ⟨l, c, hs⟩ : ∃ l c, S[kk]? = some (l, c) := ⟨_, _, List.getElem?_eq_getElem (by omega)⟩
      obtain ⟨hl0, hc0, hc1⟩ := hS.r _ _ _ hs
      obtain ⟨hbal, hzero⟩ := hG.bal _ _ _ hs
      have hbG := hG.bG kk
      have hbR := hG.bR kk
      have cg : Cell B (blk bg (zs gl) 3) bg kk (.int .i64 (gl.getD kk 0)) := cell_getD (by rw [hG.lenG]; omega)
      have cr : Cell B (blk br (zs rl) 3) br kk (.int .i64 (rl.getD kk 0)) := cell_getD (by rw [hG.lenR]; omega)
      refine walk ?_
      refine s_call rfl (sWaitingI (p := p) (S := S) hlok hs) rfl ?_
      rintro vw _ rfl
      refine WPL.shape ?_
      rintro aw cw rfl _ hcw hmw
      refine WPL.rd fun rdw => ?_
      refine walkB ?_
      refine wp_cut_here (α := SemS × List Int × List Int) [6, 13, 14, 15, 16, 17, 18, 19, 20, 21, 22, 23, 24, 48, 49, 50, 51, 52, 53, 54, 55, 56, 57, 58, 59, 60, 61, 62, 63, 64, 65, 66, 67, 68, 69, 70, 71, 72, 73, 74, 75, 76, 77, 78, 79, 80, 81, 82, 83, 84, 85, 86, 87, 88, 89, 90, 91, 92, 93, 94, 95, 96, 97, 98, 99, 100, 101, 102, 103, 104, 105, 106, 107, 108, 109, 110, 111, 112, 113, 114, 115, 116, 117, 118, 119, 120, 121, 122, 123, 124, 125, 126, 127, 128, 129, 130, 131, 132, 133, 134, 135, 136, 137, 138, 139, 140, 141, 142, 143, 144, 145, 146, 147, 148, 149, 150, 151, 152, 153, 154, 155, 156, 157, 158, 159, 160, 161, 162, 163, 164, 165, 166, 167, 168, 169, 170, 171, 172, 173, 174, 175, 176, 177, 178, 179, 180, 181, 182, 183, 184, 185, 186, 187, 188, 189, 190, 191, 192, 193, 194, 195, 196, 197, 198, 199, 200, 201, 202, 203, 204, 205, 206, 207, 208, 209, 210, 211, 212, 213, 214] (fun x => [(13, .int .i64 i)]) (fun x => SemAt p x.1 + (blk bg (zs x.2.1) 3 + (blk br (zs x.2.2) 3 + F))) (fun x => x.1.length = m ∧ SOk x.1 (i + 1) ∧ GInv x.1 first x.2.1 x.2.2 (i + 1)) ?_ ?_
      · by_cases h0 : d1 = 0 ∨ d1 = 1
        · skip
          rcases h0 with rfl | rfl
          · skip
            refine walk ?_
            have hSa := sok_acq (k := (kk : Int)) (g := g1) hS
            cases hw : whereOf S g1 with
            | some n =>
              have e : acqS S (kk : Int) g1 = (S, false, 140) := by unfold acqS; rw [if_neg (by omega), hw]; rfl
              refine s_call rfl (sAcquireE (p := p) e) rfl ?_
              rintro _ _ ⟨rfl, rfl⟩
              refine walk ?_
              (refine wp_draw [9, 16, 17, 18] (.look 0 (.look 1 (.look 2 (.look 3 (.look 4 (.look 5 (.look 6 (.look 7 (.look 8 (.look 10 (.look 11 (.look 12 (.look 13 (.look 14 (.look 15 (.act 9 (.act 16 (.act 17 (.act 18 (.look 19 (.look 20 .nil)) .stop) .stop) .stop) (.act 16 (.act 9 (.act 17 (.act 18 (.look 19 (.look 20 .nil)) .stop) .stop) .stop) .stop))))))))))))))))) (by kernel_rfl) ?_; (apply dw_pure; (· exact rfl); (· exact rfl); (· (intro G; exact looked))); (apply dw_pure; (· exact rfl); (· exact rfl); (· (intro G; exact looked))); (apply dw_pure; (· exact rfl); (· exact rfl); (· (intro G; exact looked))); (apply dw_pure; (· exact rfl); (· exact rfl); (· (intro G; exact looked))); (apply dw_pure; (· exact rfl); (· exact rfl); (· (intro G; exact looked))); (apply dw_pure; (· exact rfl); (· exact rfl); (· (intro G; exact looked))); (apply dw_pure; (· exact rfl); (· exact rfl); (· (intro G; exact looked))); (apply dw_pure; (· exact rfl); (· exact rfl); (· (intro G; exact looked))); (apply dw_pure; (· exact rfl); (· exact rfl); (· (intro G; exact looked))); (apply dw_pure; (· exact rfl); (· exact rfl); (· (intro G; exact looked))); (apply dw_pure; (· exact rfl); (· exact rfl); (· (intro G; exact looked))); (apply dw_pure; (· exact rfl); (· exact rfl); (· (intro G; exact looked))); (apply dw_pure; (· exact rfl); (· exact rfl); (· (intro G; exact looked))); (apply dw_pure; (· exact rfl); (· exact rfl); (· (intro G; exact looked))); (apply dw_look; (· exact rfl); (· exact rfl); (· (exact looked))); skip)
              refine dw_do rfl rfl ?_ (dw_do rfl rfl ?_ dw_stop)
              · skip
                (first | refine step_unwanted rfl rfl rfl rfl ?_ | refine step_unwantedU rfl rfl rfl ?_ | refine step_unwanted0 rfl rfl rfl ?_ | refine step_unwantedU0 rfl rfl ?_)
                refine wpl_nil (qone ⟨(by (refine st_again ?_ ?_; (· exact looked)); exact st_nil), ?_⟩)
                (skip)
                refine dw_do rfl rfl ?_ dw_stop
                (first | refine step_unwanted rfl rfl rfl rfl ?_ | refine step_unwantedU rfl rfl rfl ?_ | refine step_unwanted0 rfl rfl rfl ?_ | refine step_unwantedU0 rfl rfl ?_)
                refine wpl_nil (qone ⟨(by refine st_past (by kernel_rfl) ?_; exact st_nil), ?_⟩)
                (skip)
                refine dw_do rfl rfl ?_ dw_stop
                (first | refine step_unwanted rfl rfl rfl rfl ?_ | refine step_unwantedU rfl rfl rfl ?_ | refine step_unwanted0 rfl rfl rfl ?_ | refine step_unwantedU0 rfl rfl ?_)
                refine wpl_nil (qone ⟨(by refine st_past (by kernel_rfl) ?_; exact st_nil), ?_⟩)
                (skip)
                refine dw_do rfl rfl ?_ dw_stop
                (first | refine step_unwanted rfl rfl rfl rfl ?_ | refine step_unwantedU rfl rfl rfl ?_ | refine step_unwanted0 rfl rfl rfl ?_ | refine step_unwantedU0 rfl rfl ?_)
                refine wpl_nil (qone ⟨(by refine st_past (by kernel_rfl) ?_; exact st_nil), ?_⟩)
                ((apply dw_pure; (· exact rfl); (· exact rfl); (· (intro G; exact looked))); (apply dw_pure; (· exact rfl); (· exact rfl); (· (intro G; exact looked))); refine dw_nil ?_; skip)
                refine walk ?_
                exact ⟨(S, gl, rl), asided, agreed, Ent.auto, hSm, hS.up, hG.up⟩
              · skip
                (first | refine step_unwanted rfl rfl rfl rfl ?_ | refine step_unwantedU rfl rfl rfl ?_ | refine step_unwanted0 rfl rfl rfl ?_ | refine step_unwantedU0 rfl rfl ?_)
                refine wpl_nil (qone ⟨(by refine st_past (by kernel_rfl) ?_; exact st_nil), ?_⟩)
                (skip)
                refine dw_do rfl rfl ?_ dw_stop
                (first | refine step_unwanted rfl rfl rfl rfl ?_ | refine step_unwantedU rfl rfl rfl ?_ | refine step_unwanted0 rfl rfl rfl ?_ | refine step_unwantedU0 rfl rfl ?_)
                refine wpl_nil (qone ⟨(by (refine st_again ?_ ?_; (· exact looked)); exact st_nil), ?_⟩)
                (skip)
                refine dw_do rfl rfl ?_ dw_stop
                (first | refine step_unwanted rfl rfl rfl rfl ?_ | refine step_unwantedU rfl rfl rfl ?_ | refine step_unwanted0 rfl rfl rfl ?_ | refine step_unwantedU0 rfl rfl ?_)
                refine wpl_nil (qone ⟨(by refine st_past (by kernel_rfl) ?_; exact st_nil), ?_⟩)
                (skip)
                refine dw_do rfl rfl ?_ dw_stop
                (first | refine step_unwanted rfl rfl rfl rfl ?_ | refine step_unwantedU rfl rfl rfl ?_ | refine step_unwanted0 rfl rfl rfl ?_ | refine step_unwantedU0 rfl rfl ?_)
                refine wpl_nil (qone ⟨(by refine st_past (by kernel_rfl) ?_; exact st_nil), ?_⟩)
                ((apply dw_pure; (· exact rfl); (· exact rfl); (· (intro G; exact looked))); (apply dw_pure; (· exact rfl); (· exact rfl); (· (intro G; exact looked))); refine dw_nil ?_; skip)
                refine walk ?_
                exact ⟨(S, gl, rl), asided, agreed, Ent.auto, hSm, hS.up, hG.up⟩
            | none =>
              by_cases hc : 0 < c
              · have e : acqS S (kk : Int) g1 = (S.set kk (l, c - 1), true, 0) := by
                  unfold acqS countS; rw [if_neg (by omega), hw, Int.toNat_natCast, hs]; simp only [Option.isSome_none, Bool.false_eq_true, if_false, if_pos hc]; rw [modify_at hs]
                rw [e] at hSa
                refine s_call rfl (sAcquireE (p := p) e) rfl ?_
                rintro _ _ ⟨rfl, rfl⟩
                have hnil : l = [] := by
                  by_cases h : l = []
                  · exact h
                  · have := hzero h; omega
                have hG' := hG.turn hs (l' := l) (c' := c - 1) 1 0 (by omega) (by omega) (by omega) (fun h => absurd hnil h)
                rw [set_self0] at hG'
                refine walk ?_
                refine s_store (v := .int .i64 (gl.getD kk 0 + 1)) (cs' := zs (gl.set kk (gl.getD kk 0 + 1))) rfl rfl rfl (by rw [zs_length, hG.lenG]; omega) (zs_set _ _ _) ?_
                refine walk ?_
                (refine wp_draw [9, 16, 17, 18] (.look 0 (.look 1 (.look 2 (.look 3 (.look 4 (.look 5 (.look 6 (.look 7 (.look 8 (.look 10 (.look 11 (.look 12 (.look 13 (.look 14 (.look 15 (.act 9 (.act 16 (.act 17 (.act 18 (.look 19 (.look 20 .nil)) .stop) .stop) .stop) (.act 16 (.act 9 (.act 17 (.act 18 (.look 19 (.look 20 .nil)) .stop) .stop) .stop) .stop))))))))))))))))) (by kernel_rfl) ?_; (apply dw_pure; (· exact rfl); (· exact rfl); (· (intro G; exact looked))); (apply dw_pure; (· exact rfl); (· exact rfl); (· (intro G; exact looked))); (apply dw_pure; (· exact rfl); (· exact rfl); (· (intro G; exact looked))); (apply dw_pure; (· exact rfl); (· exact rfl); (· (intro G; exact looked))); (apply dw_pure; (· exact rfl); (· exact rfl); (· (intro G; exact looked))); (apply dw_pure; (· exact rfl); (· exact rfl); (· (intro G; exact looked))); (apply dw_pure; (· exact rfl); (· exact rfl); (· (intro G; exact looked))); (apply dw_pure; (· exact rfl); (· exact rfl); (· (intro G; exact looked))); (apply dw_pure; (· exact rfl); (· exact rfl); (· (intro G; exact looked))); (apply dw_pure; (· exact rfl); (· exact rfl); (· (intro G; exact looked))); (apply dw_pure; (· exact rfl); (· exact rfl); (· (intro G; exact looked))); (apply dw_pure; (· exact rfl); (· exact rfl); (· (intro G; exact looked))); (apply dw_pure; (· exact rfl); (· exact rfl); (· (intro G; exact looked))); (apply dw_pure; (· exact rfl); (· exact rfl); (· (intro G; exact looked))); (apply dw_look; (· exact rfl); (· exact rfl); (· (exact looked))); skip)
                refine dw_do rfl rfl ?_ (dw_do rfl rfl ?_ dw_stop)
                · skip
                  (first | refine step_unwanted rfl rfl rfl rfl ?_ | refine step_unwantedU rfl rfl rfl ?_ | refine step_unwanted0 rfl rfl rfl ?_ | refine step_unwantedU0 rfl rfl ?_)
                  refine wpl_nil (qone ⟨(by (refine st_again ?_ ?_; (· exact looked)); exact st_nil), ?_⟩)
                  (skip)
                  refine dw_do rfl rfl ?_ dw_stop
                  (first | refine step_unwanted rfl rfl rfl rfl ?_ | refine step_unwantedU rfl rfl rfl ?_ | refine step_unwanted0 rfl rfl rfl ?_ | refine step_unwantedU0 rfl rfl ?_)
                  refine wpl_nil (qone ⟨(by refine st_past (by kernel_rfl) ?_; exact st_nil), ?_⟩)
                  (skip)
                  refine dw_do rfl rfl ?_ dw_stop
                  (first | refine step_unwanted rfl rfl rfl rfl ?_ | refine step_unwantedU rfl rfl rfl ?_ | refine step_unwanted0 rfl rfl rfl ?_ | refine step_unwantedU0 rfl rfl ?_)
                  refine wpl_nil (qone ⟨(by refine st_past (by kernel_rfl) ?_; exact st_nil), ?_⟩)
                  (skip)
                  refine dw_do rfl rfl ?_ dw_stop
                  (first | refine step_unwanted rfl rfl rfl rfl ?_ | refine step_unwantedU rfl rfl rfl ?_ | refine step_unwanted0 rfl rfl rfl ?_ | refine step_unwantedU0 rfl rfl ?_)
                  refine wpl_nil (qone ⟨(by refine st_past (by kernel_rfl) ?_; exact st_nil), ?_⟩)
                  ((apply dw_pure; (· exact rfl); (· exact rfl); (· (intro G; exact looked))); (apply dw_pure; (· exact rfl); (· exact rfl); (· (intro G; exact looked))); refine dw_nil ?_; skip)
                  refine walk ?_
                  exact ⟨(S.set kk (l, c - 1), gl.set kk (gl.getD kk 0 + 1), rl), asided, agreed, Ent.auto, by rw [List.length_set]; exact hSm, hSa, hG'⟩
                · skip
                  (first | refine step_unwanted rfl rfl rfl rfl ?_ | refine step_unwantedU rfl rfl rfl ?_ | refine step_unwanted0 rfl rfl rfl ?_ | refine step_unwantedU0 rfl rfl ?_)
                  refine wpl_nil (qone ⟨(by refine st_past (by kernel_rfl) ?_; exact st_nil), ?_⟩)
                  (skip)
                  refine dw_do rfl rfl ?_ dw_stop
                  (first | refine step_unwanted rfl rfl rfl rfl ?_ | refine step_unwantedU rfl rfl rfl ?_ | refine step_unwanted0 rfl rfl rfl ?_ | refine step_unwantedU0 rfl rfl ?_)
                  refine wpl_nil (qone ⟨(by (refine st_again ?_ ?_; (· exact looked)); exact st_nil), ?_⟩)
                  (skip)
                  refine dw_do rfl rfl ?_ dw_stop
                  (first | refine step_unwanted rfl rfl rfl rfl ?_ | refine step_unwantedU rfl rfl rfl ?_ | refine step_unwanted0 rfl rfl rfl ?_ | refine step_unwantedU0 rfl rfl ?_)
                  refine wpl_nil (qone ⟨(by refine st_past (by kernel_rfl) ?_; exact st_nil), ?_⟩)
                  (skip)
                  refine dw_do rfl rfl ?_ dw_stop
                  (first | refine step_unwanted rfl rfl rfl rfl ?_ | refine step_unwantedU rfl rfl rfl ?_ | refine step_unwanted0 rfl rfl rfl ?_ | refine step_unwantedU0 rfl rfl ?_)
                  refine wpl_nil (qone ⟨(by refine st_past (by kernel_rfl) ?_; exact st_nil), ?_⟩)
                  ((apply dw_pure; (· exact rfl); (· exact rfl); (· (intro G; exact looked))); (apply dw_pure; (· exact rfl); (· exact rfl); (· (intro G; exact looked))); refine dw_nil ?_; skip)
                  refine walk ?_
                  exact ⟨(S.set kk (l, c - 1), gl.set kk (gl.getD kk 0 + 1), rl), asided, agreed, Ent.auto, by rw [List.length_set]; exact hSm, hSa, hG'⟩
              · have e : acqS S (kk : Int) g1 = (S.set kk (l ++ [g1], c), false, 0) := by
                  unfold acqS pushS; rw [if_neg (by omega), hw, Int.toNat_natCast, hs]; simp only [Option.isSome_none, Bool.false_eq_true, if_false, if_neg hc]; rw [modify_at hs]
                rw [e] at hSa
                refine s_call rfl (sAcquireE (p := p) e) rfl ?_
                rintro _ _ ⟨rfl, rfl⟩
                have hG' := hG.turn hs (l' := l ++ [g1]) (c' := c) 0 0 (by omega) (by omega) (by omega) (fun h => by omega)
                rw [set_self0, set_self0] at hG'
                have hs2 : (S.set kk (l ++ [g1], c))[kk]? = some (l ++ [g1], c) := by rw [List.getElem?_set, if_pos rfl, if_pos (by omega)]
                refine walk ?_
                (refine wp_draw [9, 16, 17, 18] (.look 0 (.look 1 (.look 2 (.look 3 (.look 4 (.look 5 (.look 6 (.look 7 (.look 8 (.look 10 (.look 11 (.look 12 (.look 13 (.look 14 (.look 15 (.act 9 (.act 16 (.act 17 (.act 18 (.look 19 (.look 20 .nil)) .stop) .stop) .stop) (.act 16 (.act 9 (.act 17 (.act 18 (.look 19 (.look 20 .nil)) .stop) .stop) .stop) .stop))))))))))))))))) (by kernel_rfl) ?_; (apply dw_pure; (· exact rfl); (· exact rfl); (· (intro G; exact looked))); (apply dw_pure; (· exact rfl); (· exact rfl); (· (intro G; exact looked))); (apply dw_pure; (· exact rfl); (· exact rfl); (· (intro G; exact looked))); (apply dw_pure; (· exact rfl); (· exact rfl); (· (intro G; exact looked))); (apply dw_pure; (· exact rfl); (· exact rfl); (· (intro G; exact looked))); (apply dw_pure; (· exact rfl); (· exact rfl); (· (intro G; exact looked))); (apply dw_pure; (· exact rfl); (· exact rfl); (· (intro G; exact looked))); (apply dw_pure; (· exact rfl); (· exact rfl); (· (intro G; exact looked))); (apply dw_pure; (· exact rfl); (· exact rfl); (· (intro G; exact looked))); (apply dw_pure; (· exact rfl); (· exact rfl); (· (intro G; exact looked))); (apply dw_pure; (· exact rfl); (· exact rfl); (· (intro G; exact looked))); (apply dw_pure; (· exact rfl); (· exact rfl); (· (intro G; exact looked))); (apply dw_pure; (· exact rfl); (· exact rfl); (· (intro G; exact looked))); (apply dw_pure; (· exact rfl); (· exact rfl); (· (intro G; exact looked))); (apply dw_look; (· exact rfl); (· exact rfl); (· (exact looked))); skip)
                refine dw_do rfl rfl ?_ (dw_do rfl rfl ?_ dw_stop)
                · skip
                  refine step_wanted rfl rfl ?_
                  refine s_call rfl (sWaitingI (p := p) (S := S.set kk (l ++ [g1], c)) (hSa.lok (by omega)) hs2) rfl ?_
                  rintro v9 _ rfl
                  refine wpl_nil (qone ⟨(by (refine st_again ?_ ?_; (· exact looked)); exact st_nil), ?_⟩)
                  (skip)
                  refine dw_do rfl rfl ?_ dw_stop
                  refine step_wanted rfl rfl ?_
                  refine s_buildInts (cs := [.int .i64 g1]) rfl rfl rfl rfl rfl ?_
                  intro bb
                  refine wpl_nil (qone ⟨(by refine st_past (by kernel_rfl) ?_; exact st_nil), ?_⟩)
                  (skip)
                  refine dw_do rfl rfl ?_ dw_stop
                  refine step_wanted rfl rfl ?_
                  refine s_append (v := .slice aw l.length cw) rfl rfl (Rd.blk0 (m := 1) (e := 3) rfl (by simp [maxLen])) rfl rfl ?_ rfl ?_
                  · simp only [maxLen]; omega
                  intro v17
                  rw [← zs_push, ← len_push l g1]
                  refine WPL.rd fun rd17 => ?_
                  refine wpl_nil (qone ⟨(by refine st_past (by kernel_rfl) ?_; exact st_nil), ?_⟩)
                  (skip)
                  refine dw_do rfl rfl ?_ dw_stop
                  refine step_wanted rfl rfl ?_
                  refine s_call rfl (row_same (s := v9) (xs := l ++ [g1]) (rd17.ent InH.ent)) rfl ?_
                  rintro _ _ ⟨rfl, rfl⟩
                  refine wpl_nil (qone ⟨(by refine st_past (by kernel_rfl) ?_; exact st_nil), ?_⟩)
                  ((apply dw_pure; (· exact rfl); (· exact rfl); (· (intro G; exact looked))); (apply dw_pure; (· exact rfl); (· exact rfl); (· (intro G; exact looked))); refine dw_nil ?_; skip)
                  refine walk ?_
                  exact ⟨(S.set kk (l ++ [g1], c), gl, rl), asided, agreed, Ent.auto, by rw [List.length_set]; exact hSm, hSa, hG'⟩
                · skip
                  refine step_wanted rfl rfl ?_
                  refine s_buildInts (cs := [.int .i64 g1]) rfl rfl rfl rfl rfl ?_
                  intro bb
                  refine wpl_nil (qone ⟨(by refine st_past (by kernel_rfl) ?_; exact st_nil), ?_⟩)
                  (skip)
                  refine dw_do rfl rfl ?_ dw_stop
                  refine step_wanted rfl rfl ?_
                  refine s_call rfl (sWaitingI (p := p) (S := S.set kk (l ++ [g1], c)) (hSa.lok (by omega)) hs2) rfl ?_
                  rintro v9 _ rfl
                  refine wpl_nil (qone ⟨(by (refine st_again ?_ ?_; (· exact looked)); exact st_nil), ?_⟩)
                  (skip)
                  refine dw_do rfl rfl ?_ dw_stop
                  refine step_wanted rfl rfl ?_
                  refine s_append (v := .slice aw l.length cw) rfl rfl (Rd.blk0 (m := 1) (e := 3) rfl (by simp [maxLen])) rfl rfl ?_ rfl ?_
                  · simp only [maxLen]; omega
                  intro v17
                  rw [← zs_push, ← len_push l g1]
                  refine WPL.rd fun rd17 => ?_
                  refine wpl_nil (qone ⟨(by refine st_past (by kernel_rfl) ?_; exact st_nil), ?_⟩)
                  (skip)
                  refine dw_do rfl rfl ?_ dw_stop
                  refine step_wanted rfl rfl ?_
                  refine s_call rfl (row_same (s := v9) (xs := l ++ [g1]) (rd17.ent InH.ent)) rfl ?_
                  rintro _ _ ⟨rfl, rfl⟩
                  refine wpl_nil (qone ⟨(by refine st_past (by kernel_rfl) ?_; exact st_nil), ?_⟩)
                  ((apply dw_pure; (· exact rfl); (· exact rfl); (· (intro G; exact looked))); (apply dw_pure; (· exact rfl); (· exact rfl); (· (intro G; exact looked))); refine dw_nil ?_; skip)
                  refine walk ?_
                  exact ⟨(S.set kk (l ++ [g1], c), gl, rl), asided, agreed, Ent.auto, by rw [List.length_set]; exact hSm, hSa, hG'⟩
          · skip
            refine walk ?_
            have hSa := sok_acq (k := (kk : Int)) (g := g1) hS
            cases hw : whereOf S g1 with
            | some n =>
              have e : acqS S (kk : Int) g1 = (S, false, 140) := by unfold acqS; rw [if_neg (by omega), hw]; rfl
              refine s_call rfl (sAcquireE (p := p) e) rfl ?_
              rintro _ _ ⟨rfl, rfl⟩
              refine walk ?_
              (refine wp_draw [9, 16, 17, 18] (.look 0 (.look 1 (.look 2 (.look 3 (.look 4 (.look 5 (.look 6 (.look 7 (.look 8 (.look 10 (.look 11 (.look 12 (.look 13 (.look 14 (.look 15 (.act 9 (.act 16 (.act 17 (.act 18 (.look 19 (.look 20 .nil)) .stop) .stop) .stop) (.act 16 (.act 9 (.act 17 (.act 18 (.look 19 (.look 20 .nil)) .stop) .stop) .stop) .stop))))))))))))))))) (by kernel_rfl) ?_; (apply dw_pure; (· exact rfl); (· exact rfl); (· (intro G; exact looked))); (apply dw_pure; (· exact rfl); (· exact rfl); (· (intro G; exact looked))); (apply dw_pure; (· exact rfl); (· exact rfl); (· (intro G; exact looked))); (apply dw_pure; (· exact rfl); (· exact rfl); (· (intro G; exact looked))); (apply dw_pure; (· exact rfl); (· exact rfl); (· (intro G; exact looked))); (apply dw_pure; (· exact rfl); (· exact rfl); (· (intro G; exact looked))); (apply dw_pure; (· exact rfl); (· exact rfl); (· (intro G; exact looked))); (apply dw_pure; (· exact rfl); (· exact rfl); (· (intro G; exact looked))); (apply dw_pure; (· exact rfl); (· exact rfl); (· (intro G; exact looked))); (apply dw_pure; (· exact rfl); (· exact rfl); (· (intro G; exact looked))); (apply dw_pure; (· exact rfl); (· exact rfl); (· (intro G; exact looked))); (apply dw_pure; (· exact rfl); (· exact rfl); (· (intro G; exact looked))); (apply dw_pure; (· exact rfl); (· exact rfl); (· (intro G; exact looked))); (apply dw_pure; (· exact rfl); (· exact rfl); (· (intro G; exact looked))); (apply dw_look; (· exact rfl); (· exact rfl); (· (exact looked))); skip)
              refine dw_do rfl rfl ?_ (dw_do rfl rfl ?_ dw_stop)
              · skip
                (first | refine step_unwanted rfl rfl rfl rfl ?_ | refine step_unwantedU rfl rfl rfl ?_ | refine step_unwanted0 rfl rfl rfl ?_ | refine step_unwantedU0 rfl rfl ?_)
                refine wpl_nil (qone ⟨(by (refine st_again ?_ ?_; (· exact looked)); exact st_nil), ?_⟩)
                (skip)
                refine dw_do rfl rfl ?_ dw_stop
                (first | refine step_unwanted rfl rfl rfl rfl ?_ | refine step_unwantedU rfl rfl rfl ?_ | refine step_unwanted0 rfl rfl rfl ?_ | refine step_unwantedU0 rfl rfl ?_)
                refine wpl_nil (qone ⟨(by refine st_past (by kernel_rfl) ?_; exact st_nil), ?_⟩)
                (skip)
                refine dw_do rfl rfl ?_ dw_stop
                (first | refine step_unwanted rfl rfl rfl rfl ?_ | refine step_unwantedU rfl rfl rfl ?_ | refine step_unwanted0 rfl rfl rfl ?_ | refine step_unwantedU0 rfl rfl ?_)
                refine wpl_nil (qone ⟨(by refine st_past (by kernel_rfl) ?_; exact st_nil), ?_⟩)
                (skip)
                refine dw_do rfl rfl ?_ dw_stop
                (first | refine step_unwanted rfl rfl rfl rfl ?_ | refine step_unwantedU rfl rfl rfl ?_ | refine step_unwanted0 rfl rfl rfl ?_ | refine step_unwantedU0 rfl rfl ?_)
                refine wpl_nil (qone ⟨(by refine st_past (by kernel_rfl) ?_; exact st_nil), ?_⟩)
                ((apply dw_pure; (· exact rfl); (· exact rfl); (· (intro G; exact looked))); (apply dw_pure; (· exact rfl); (· exact rfl); (· (intro G; exact looked))); refine dw_nil ?_; skip)
                refine walk ?_
                exact ⟨(S, gl, rl), asided, agreed, Ent.auto, hSm, hS.up, hG.up⟩
              · skip
                (first | refine step_unwanted rfl rfl rfl rfl ?_ | refine step_unwantedU rfl rfl rfl ?_ | refine step_unwanted0 rfl rfl rfl ?_ | refine step_unwantedU0 rfl rfl ?_)
                refine wpl_nil (qone ⟨(by refine st_past (by kernel_rfl) ?_; exact st_nil), ?_⟩)
                (skip)
                refine dw_do rfl rfl ?_ dw_stop
                (first | refine step_unwanted rfl rfl rfl rfl ?_ | refine step_unwantedU rfl rfl rfl ?_ | refine step_unwanted0 rfl rfl rfl ?_ | refine step_unwantedU0 rfl rfl ?_)
                refine wpl_nil (qone ⟨(by (refine st_again ?_ ?_; (· exact looked)); exact st_nil), ?_⟩)
                (skip)
                refine dw_do rfl rfl ?_ dw_stop
                (first | refine step_unwanted rfl rfl rfl rfl ?_ | refine step_unwantedU rfl rfl rfl ?_ | refine step_unwanted0 rfl rfl rfl ?_ | refine step_unwantedU0 rfl rfl ?_)
                refine wpl_nil (qone ⟨(by refine st_past (by kernel_rfl) ?_; exact st_nil), ?_⟩)
                (skip)
                refine dw_do rfl rfl ?_ dw_stop
                (first | refine step_unwanted rfl rfl rfl rfl ?_ | refine step_unwantedU rfl rfl rfl ?_ | refine step_unwanted0 rfl rfl rfl ?_ | refine step_unwantedU0 rfl rfl ?_)
                refine wpl_nil (qone ⟨(by refine st_past (by kernel_rfl) ?_; exact st_nil), ?_⟩)
                ((apply dw_pure; (· exact rfl); (· exact rfl); (· (intro G; exact looked))); (apply dw_pure; (· exact rfl); (· exact rfl); (· (intro G; exact looked))); refine dw_nil ?_; skip)
                refine walk ?_
                exact ⟨(S, gl, rl), asided, agreed, Ent.auto, hSm, hS.up, hG.up⟩
            | none =>
              by_cases hc : 0 < c
              · have e : acqS S (kk : Int) g1 = (S.set kk (l, c - 1), true, 0) := by
                  unfold acqS countS; rw [if_neg (by omega), hw, Int.toNat_natCast, hs]; simp only [Option.isSome_none, Bool.false_eq_true, if_false, if_pos hc]; rw [modify_at hs]
                rw [e] at hSa
                refine s_call rfl (sAcquireE (p := p) e) rfl ?_
                rintro _ _ ⟨rfl, rfl⟩
                have hnil : l = [] := by
                  by_cases h : l = []
                  · exact h
                  · have := hzero h; omega
                have hG' := hG.turn hs (l' := l) (c' := c - 1) 1 0 (by omega) (by omega) (by omega) (fun h => absurd hnil h)
                rw [set_self0] at hG'
                refine walk ?_
                refine s_store (v := .int .i64 (gl.getD kk 0 + 1)) (cs' := zs (gl.set kk (gl.getD kk 0 + 1))) rfl rfl rfl (by rw [zs_length, hG.lenG]; omega) (zs_set _ _ _) ?_
                refine walk ?_
                (refine wp_draw [9, 16, 17, 18] (.look 0 (.look 1 (.look 2 (.look 3 (.look 4 (.look 5 (.look 6 (.look 7 (.look 8 (.look 10 (.look 11 (.look 12 (.look 13 (.look 14 (.look 15 (.act 9 (.act 16 (.act 17 (.act 18 (.look 19 (.look 20 .nil)) .stop) .stop) .stop) (.act 16 (.act 9 (.act 17 (.act 18 (.look 19 (.look 20 .nil)) .stop) .stop) .stop) .stop))))))))))))))))) (by kernel_rfl) ?_; (apply dw_pure; (· exact rfl); (· exact rfl); (· (intro G; exact looked))); (apply dw_pure; (· exact rfl); (· exact rfl); (· (intro G; exact looked))); (apply dw_pure; (· exact rfl); (· exact rfl); (· (intro G; exact looked))); (apply dw_pure; (· exact rfl); (· exact rfl); (· (intro G; exact looked))); (apply dw_pure; (· exact rfl); (· exact rfl); (· (intro G; exact looked))); (apply dw_pure; (· exact rfl); (· exact rfl); (· (intro G; exact looked))); (apply dw_pure; (· exact rfl); (· exact rfl); (· (intro G; exact looked))); (apply dw_pure; (· exact rfl); (· exact rfl); (· (intro G; exact looked))); (apply dw_pure; (· exact rfl); (· exact rfl); (· (intro G; exact looked))); (apply dw_pure; (· exact rfl); (· exact rfl); (· (intro G; exact looked))); (apply dw_pure; (· exact rfl); (· exact rfl); (· (intro G; exact looked))); (apply dw_pure; (· exact rfl); (· exact rfl); (· (intro G; exact looked))); (apply dw_pure; (· exact rfl); (· exact rfl); (· (intro G; exact looked))); (apply dw_pure; (· exact rfl); (· exact rfl); (· (intro G; exact looked))); (apply dw_look; (· exact rfl); (· exact rfl); (· (exact looked))); skip)
                refine dw_do rfl rfl ?_ (dw_do rfl rfl ?_ dw_stop)
                · skip
                  (first | refine step_unwanted rfl rfl rfl rfl ?_ | refine step_unwantedU rfl rfl rfl ?_ | refine step_unwanted0 rfl rfl rfl ?_ | refine step_unwantedU0 rfl rfl ?_)
                  refine wpl_nil (qone ⟨(by (refine st_again ?_ ?_; (· exact looked)); exact st_nil), ?_⟩)
                  (skip)
                  refine dw_do rfl rfl ?_ dw_stop
                  (first | refine step_unwanted rfl rfl rfl rfl ?_ | refine step_unwantedU rfl rfl rfl ?_ | refine step_unwanted0 rfl rfl rfl ?_ | refine step_unwantedU0 rfl rfl ?_)
                  refine wpl_nil (qone ⟨(by refine st_past (by kernel_rfl) ?_; exact st_nil), ?_⟩)
                  (skip)
                  refine dw_do rfl rfl ?_ dw_stop
                  (first | refine step_unwanted rfl rfl rfl rfl ?_ | refine step_unwantedU rfl rfl rfl ?_ | refine step_unwanted0 rfl rfl rfl ?_ | refine step_unwantedU0 rfl rfl ?_)
                  refine wpl_nil (qone ⟨(by refine st_past (by kernel_rfl) ?_; exact st_nil), ?_⟩)
                  (skip)
                  refine dw_do rfl rfl ?_ dw_stop
                  (first | refine step_unwanted rfl rfl rfl rfl ?_ | refine step_unwantedU rfl rfl rfl ?_ | refine step_unwanted0 rfl rfl rfl ?_ | refine step_unwantedU0 rfl rfl ?_)
                  refine wpl_nil (qone ⟨(by refine st_past (by kernel_rfl) ?_; exact st_nil), ?_⟩)
                  ((apply dw_pure; (· exact rfl); (· exact rfl); (· (intro G; exact looked))); (apply dw_pure; (· exact rfl); (· exact rfl); (· (intro G; exact looked))); refine dw_nil ?_; skip)
                  refine walk ?_
                  exact ⟨(S.set kk (l, c - 1), gl.set kk (gl.getD kk 0 + 1), rl), asided, agreed, Ent.auto, by rw [List.length_set]; exact hSm, hSa, hG'⟩
                · skip
                  (first | refine step_unwanted rfl rfl rfl rfl ?_ | refine step_unwantedU rfl rfl rfl ?_ | refine step_unwanted0 rfl rfl rfl ?_ | refine step_unwantedU0 rfl rfl ?_)
                  refine wpl_nil (qone ⟨(by refine st_past (by kernel_rfl) ?_; exact st_nil), ?_⟩)
                  (skip)
                  refine dw_do rfl rfl ?_ dw_stop
                  (first | refine step_unwanted rfl rfl rfl rfl ?_ | refine step_unwantedU rfl rfl rfl ?_ | refine step_unwanted0 rfl rfl rfl ?_ | refine step_unwantedU0 rfl rfl ?_)
                  refine wpl_nil (qone ⟨(by (refine st_again ?_ ?_; (· exact looked)); exact st_nil), ?_⟩)
                  (skip)
                  refine dw_do rfl rfl ?_ dw_stop
                  (first | refine step_unwanted rfl rfl rfl rfl ?_ | refine step_unwantedU rfl rfl rfl ?_ | refine step_unwanted0 rfl rfl rfl ?_ | refine step_unwantedU0 rfl rfl ?_)
                  refine wpl_nil (qone ⟨(by refine st_past (by kernel_rfl) ?_; exact st_nil), ?_⟩)
                  (skip)
                  refine dw_do rfl rfl ?_ dw_stop
                  (first | refine step_unwanted rfl rfl rfl rfl ?_ | refine step_unwantedU rfl rfl rfl ?_ | refine step_unwanted0 rfl rfl rfl ?_ | refine step_unwantedU0 rfl rfl ?_)
                  refine wpl_nil (qone ⟨(by refine st_past (by kernel_rfl) ?_; exact st_nil), ?_⟩)
                  ((apply dw_pure; (· exact rfl); (· exact rfl); (· (intro G; exact looked))); (apply dw_pure; (· exact rfl); (· exact rfl); (· (intro G; exact looked))); refine dw_nil ?_; skip)
                  refine walk ?_
                  exact ⟨(S.set kk (l, c - 1), gl.set kk (gl.getD kk 0 + 1), rl), asided, agreed, Ent.auto, by rw [List.length_set]; exact hSm, hSa, hG'⟩
              · have e : acqS S (kk : Int) g1 = (S.set kk (l ++ [g1], c), false, 0) := by
                  unfold acqS pushS; rw [if_neg (by omega), hw, Int.toNat_natCast, hs]; simp only [Option.isSome_none, Bool.false_eq_true, if_false, if_neg hc]; rw [modify_at hs]
                rw [e] at hSa
                refine s_call rfl (sAcquireE (p := p) e) rfl ?_
                rintro _ _ ⟨rfl, rfl⟩
                have hG' := hG.turn hs (l' := l ++ [g1]) (c' := c) 0 0 (by omega) (by omega) (by omega) (fun h => by omega)
                rw [set_self0, set_self0] at hG'
                have hs2 : (S.set kk (l ++ [g1], c))[kk]? = some (l ++ [g1], c) := by rw [List.getElem?_set, if_pos rfl, if_pos (by omega)]
                refine walk ?_
                (refine wp_draw [9, 16, 17, 18] (.look 0 (.look 1 (.look 2 (.look 3 (.look 4 (.look 5 (.look 6 (.look 7 (.look 8 (.look 10 (.look 11 (.look 12 (.look 13 (.look 14 (.look 15 (.act 9 (.act 16 (.act 17 (.act 18 (.look 19 (.look 20 .nil)) .stop) .stop) .stop) (.act 16 (.act 9 (.act 17 (.act 18 (.look 19 (.look 20 .nil)) .stop) .stop) .stop) .stop))))))))))))))))) (by kernel_rfl) ?_; (apply dw_pure; (· exact rfl); (· exact rfl); (· (intro G; exact looked))); (apply dw_pure; (· exact rfl); (· exact rfl); (· (intro G; exact looked))); (apply dw_pure; (· exact rfl); (· exact rfl); (· (intro G; exact looked))); (apply dw_pure; (· exact rfl); (· exact rfl); (· (intro G; exact looked))); (apply dw_pure; (· exact rfl); (· exact rfl); (· (intro G; exact looked))); (apply dw_pure; (· exact rfl); (· exact rfl); (· (intro G; exact looked))); (apply dw_pure; (· exact rfl); (· exact rfl); (· (intro G; exact looked))); (apply dw_pure; (· exact rfl); (· exact rfl); (· (intro G; exact looked))); (apply dw_pure; (· exact rfl); (· exact rfl); (· (intro G; exact looked))); (apply dw_pure; (· exact rfl); (· exact rfl); (· (intro G; exact looked))); (apply dw_pure; (· exact rfl); (· exact rfl); (· (intro G; exact looked))); (apply dw_pure; (· exact rfl); (· exact rfl); (· (intro G; exact looked))); (apply dw_pure; (· exact rfl); (· exact rfl); (· (intro G; exact looked))); (apply dw_pure; (· exact rfl); (· exact rfl); (· (intro G; exact looked))); (apply dw_look; (· exact rfl); (· exact rfl); (· (exact looked))); skip)
                refine dw_do rfl rfl ?_ (dw_do rfl rfl ?_ dw_stop)
                · skip
                  refine step_wanted rfl rfl ?_
                  refine s_call rfl (sWaitingI (p := p) (S := S.set kk (l ++ [g1], c)) (hSa.lok (by omega)) hs2) rfl ?_
                  rintro v9 _ rfl
                  refine wpl_nil (qone ⟨(by (refine st_again ?_ ?_; (· exact looked)); exact st_nil), ?_⟩)
                  (skip)
                  refine dw_do rfl rfl ?_ dw_stop
                  refine step_wanted rfl rfl ?_
                  refine s_buildInts (cs := [.int .i64 g1]) rfl rfl rfl rfl rfl ?_
                  intro bb
                  refine wpl_nil (qone ⟨(by refine st_past (by kernel_rfl) ?_; exact st_nil), ?_⟩)
                  (skip)
                  refine dw_do rfl rfl ?_ dw_stop
                  refine step_wanted rfl rfl ?_
                  refine s_append (v := .slice aw l.length cw) rfl rfl (Rd.blk0 (m := 1) (e := 3) rfl (by simp [maxLen])) rfl rfl ?_ rfl ?_
                  · simp only [maxLen]; omega
                  intro v17
                  rw [← zs_push, ← len_push l g1]
                  refine WPL.rd fun rd17 => ?_
                  refine wpl_nil (qone ⟨(by refine st_past (by kernel_rfl) ?_; exact st_nil), ?_⟩)
                  (skip)
                  refine dw_do rfl rfl ?_ dw_stop
                  refine step_wanted rfl rfl ?_
                  refine s_call rfl (row_same (s := v9) (xs := l ++ [g1]) (rd17.ent InH.ent)) rfl ?_
                  rintro _ _ ⟨rfl, rfl⟩
                  refine wpl_nil (qone ⟨(by refine st_past (by kernel_rfl) ?_; exact st_nil), ?_⟩)
                  ((apply dw_pure; (· exact rfl); (· exact rfl); (· (intro G; exact looked))); (apply dw_pure; (· exact rfl); (· exact rfl); (· (intro G; exact looked))); refine dw_nil ?_; skip)
                  refine walk ?_
                  exact ⟨(S.set kk (l ++ [g1], c), gl, rl), asided, agreed, Ent.auto, by rw [List.length_set]; exact hSm, hSa, hG'⟩
                · skip
                  refine step_wanted rfl rfl ?_
                  refine s_buildInts (cs := [.int .i64 g1]) rfl rfl rfl rfl rfl ?_
                  intro bb
                  refine wpl_nil (qone ⟨(by refine st_past (by kernel_rfl) ?_; exact st_nil), ?_⟩)
                  (skip)
                  refine dw_do rfl rfl ?_ dw_stop
                  refine step_wanted rfl rfl ?_
                  refine s_call rfl (sWaitingI (p := p) (S := S.set kk (l ++ [g1], c)) (hSa.lok (by omega)) hs2) rfl ?_
                  rintro v9 _ rfl
                  refine wpl_nil (qone ⟨(by (refine st_again ?_ ?_; (· exact looked)); exact st_nil), ?_⟩)
                  (skip)
                  refine dw_do rfl rfl ?_ dw_stop
                  refine step_wanted rfl rfl ?_
                  refine s_append (v := .slice aw l.length cw) rfl rfl (Rd.blk0 (m := 1) (e := 3) rfl (by simp [maxLen])) rfl rfl ?_ rfl ?_
                  · simp only [maxLen]; omega
                  intro v17
                  rw [← zs_push, ← len_push l g1]
                  refine WPL.rd fun rd17 => ?_
                  refine wpl_nil (qone ⟨(by refine st_past (by kernel_rfl) ?_; exact st_nil), ?_⟩)
                  (skip)
                  refine dw_do rfl rfl ?_ dw_stop
                  refine step_wanted rfl rfl ?_
                  refine s_call rfl (row_same (s := v9) (xs := l ++ [g1]) (rd17.ent InH.ent)) rfl ?_
                  rintro _ _ ⟨rfl, rfl⟩
                  refine wpl_nil (qone ⟨(by refine st_past (by kernel_rfl) ?_; exact st_nil), ?_⟩)
                  ((apply dw_pure; (· exact rfl); (· exact rfl); (· (intro G; exact looked))); (apply dw_pure; (· exact rfl); (· exact rfl); (· (intro G; exact looked))); refine dw_nil ?_; skip)
                  refine walk ?_
                  exact ⟨(S.set kk (l ++ [g1], c), gl, rl), asided, agreed, Ent.auto, by rw [List.length_set]; exact hSm, hSa, hG'⟩
        · by_cases h2 : d1 = 2
          · subst h2
            refine walk ?_
            have hSa := sok_rel (k := (kk : Int)) hS
            cases l with
            | nil =>
              have hc2 : c ≠ 1073741824 := by omega
              have e : relS S (kk : Int) = (S.set kk ([], c + 1), 0, false, 0) := by
                unfold relS countS; rw [if_neg (by omega), Int.toNat_natCast, hs]; simp only [if_neg hc2]; rw [modify_at hs]
              rw [e] at hSa
              refine s_call rfl (sReleaseE (p := p) e) rfl ?_
              rintro _ _ ⟨rfl, rfl⟩
              have hG' := hG.turn hs (l' := []) (c' := c + 1) 0 1 (by omega) (by omega) (by omega) (fun h => absurd rfl h)
              rw [set_self0] at hG'
              simp only [List.length_nil]
              refine walk ?_
              (refine wp_draw [20, 23] (.look 0 (.look 1 (.look 2 (.look 3 (.look 4 (.look 5 (.look 6 (.look 7 (.look 8 (.look 9 (.look 10 (.look 11 (.look 12 (.look 13 (.look 14 (.look 15 (.look 16 (.look 17 (.look 18 (.look 19 (.look 21 (.look 22 (.act 20 (.act 23 (.look 24 (.look 25 (.look 26 (.look 27 .nil)))) .stop) .stop))))))))))))))))))))))) (by kernel_rfl) ?_; (apply dw_pure; (· exact rfl); (· exact rfl); (· (intro G; exact looked))); (apply dw_pure; (· exact rfl); (· exact rfl); (· (intro G; exact looked))); (apply dw_pure; (· exact rfl); (· exact rfl); (· (intro G; exact looked))); (apply dw_pure; (· exact rfl); (· exact rfl); (· (intro G; exact looked))); (apply dw_pure; (· exact rfl); (· exact rfl); (· (intro G; exact looked))); (apply dw_pure; (· exact rfl); (· exact rfl); (· (intro G; exact looked))); (apply dw_pure; (· exact rfl); (· exact rfl); (· (intro G; exact looked))); (apply dw_pure; (· exact rfl); (· exact rfl); (· (intro G; exact looked))); (apply dw_pure; (· exact rfl); (· exact rfl); (· (intro G; exact looked))); (apply dw_pure; (· exact rfl); (· exact rfl); (· (intro G; exact looked))); (apply dw_pure; (· exact rfl); (· exact rfl); (· (intro G; exact looked))); (apply dw_pure; (· exact rfl); (· exact rfl); (· (intro G; exact looked))); (apply dw_pure; (· exact rfl); (· exact rfl); (· (intro G; exact looked))); (apply dw_pure; (· exact rfl); (· exact rfl); (· (intro G; exact looked))); (apply dw_pure; (· exact rfl); (· exact rfl); (· (intro G; (first | (refine step_wanted rfl rfl ?_; (apply s_indexAddr (j := 0) (o' := ow); (· exact rfl); (· exact rfl); (· omega); (· omega); (· omega); (· exact rfl))) | skip); exact looked))); (apply dw_look; (· exact rfl); (· exact rfl); (· (exact looked))); (apply dw_pure; (· exact rfl); (· exact rfl); (· (intro G; exact looked))); (apply dw_pure; (· exact rfl); (· exact rfl); (· (intro G; exact looked))); (apply dw_pure; (· exact rfl); (· exact rfl); (· (intro G; exact looked))); (apply dw_pure; (· exact rfl); (· exact rfl); (· (intro G; exact looked))); (apply dw_pure; (· exact rfl); (· exact rfl); (· (intro G; exact looked))); (apply dw_pure; (· exact rfl); (· exact rfl); (· (intro G; (first | (refine step_wanted rfl rfl ?_; (apply s_sliceL (l := 1); (· exact rfl); (· exact rfl); (· omega); (· omega); (· exact rfl))) | skip); exact looked))); skip)
              refine dw_do rfl rfl ?_ dw_stop
              (first | refine step_unwanted rfl rfl rfl rfl ?_ | refine step_unwantedU rfl rfl rfl ?_ | refine step_unwanted0 rfl rfl rfl ?_ | refine step_unwantedU0 rfl rfl ?_)
              refine wpl_nil (qone ⟨(by refine st_past (by kernel_rfl) ?_; exact st_nil), ?_⟩)
              (skip)
              refine dw_do rfl rfl ?_ dw_stop
              (first | refine step_unwanted rfl rfl rfl rfl ?_ | refine step_unwantedU rfl rfl rfl ?_ | refine step_unwanted0 rfl rfl rfl ?_ | refine step_unwantedU0 rfl rfl ?_)
              refine wpl_nil (qone ⟨(by refine st_past (by kernel_rfl) ?_; exact st_nil), ?_⟩)
              ((apply dw_pure; (· exact rfl); (· exact rfl); (· (intro G; exact looked))); (apply dw_pure; (· exact rfl); (· exact rfl); (· (intro G; exact looked))); (apply dw_pure; (· exact rfl); (· exact rfl); (· (intro G; exact looked))); (apply dw_pure; (· exact rfl); (· exact rfl); (· (intro G; exact looked))); refine dw_nil ?_; skip)
              refine walk ?_
              refine s_store (v := .int .i64 (rl.getD kk 0 + 1)) (cs' := zs (rl.set kk (rl.getD kk 0 + 1))) rfl rfl rfl (by rw [zs_length, hG.lenR]; omega) (zs_set _ _ _) ?_
              refine walk ?_
              exact ⟨(S.set kk ([], c + 1), gl, rl.set kk (rl.getD kk 0 + 1)), asided, agreed, Ent.auto, by rw [List.length_set]; exact hSm, hSa, hG'⟩
            | cons y l =>
              have e : relS S (kk : Int) = (S.set kk (l, c), y, true, 0) := by
                unfold relS; rw [if_neg (by omega), Int.toNat_natCast, hs]
              rw [e] at hSa
              refine s_call rfl (sReleaseE (p := p) e) rfl ?_
              rintro _ _ ⟨rfl, rfl⟩
              have hG' := hG.turn hs (l' := l) (c' := c) 1 1 (by omega) (by omega) (by omega) (fun _ => hzero (by simp))
              have hs2 : (S.set kk (l, c))[kk]? = some (l, c) := by rw [List.getElem?_set, if_pos rfl, if_pos (by omega)]
              simp only [List.length_cons] at hcw rdw
              have rdw' := rdw
              unfold Rd at rdw'
              obtain ⟨_, _, e_, hl2, hm2, ha2⟩ := rdw'
              cases e_
              obtain ⟨bw, ow, rfl, hclw⟩ := Rd.addr hl2 ha2 (k := 0) (by omega)
              have hcy : Cell B (Mine 3 1 (.slice (some ⟨bw, ow, none⟩) (l.length + 1) cw) (l.length + 1) (zs (y :: l))) bw ow (.int .i64 y) := hclw.cell (j := 0) rfl
              have hcy0 : Cell B (Mine 3 1 (.slice (some ⟨bw, ow, none⟩) (l.length + 1) cw) (l.length + 1) (zs (y :: l))) bw (ow + 0) (.int .i64 y) := hcy
              have htl := Rd.sliceL 1 rdw (by omega) hcw
              simp only [List.length_cons]
              refine walk ?_
              (refine wp_draw [20, 23] (.look 0 (.look 1 (.look 2 (.look 3 (.look 4 (.look 5 (.look 6 (.look 7 (.look 8 (.look 9 (.look 10 (.look 11 (.look 12 (.look 13 (.look 14 (.look 15 (.look 16 (.look 17 (.look 18 (.look 19 (.look 21 (.look 22 (.act 20 (.act 23 (.look 24 (.look 25 (.look 26 (.look 27 .nil)))) .stop) .stop))))))))))))))))))))))) (by kernel_rfl) ?_; (apply dw_pure; (· exact rfl); (· exact rfl); (· (intro G; exact looked))); (apply dw_pure; (· exact rfl); (· exact rfl); (· (intro G; exact looked))); (apply dw_pure; (· exact rfl); (· exact rfl); (· (intro G; exact looked))); (apply dw_pure; (· exact rfl); (· exact rfl); (· (intro G; exact looked))); (apply dw_pure; (· exact rfl); (· exact rfl); (· (intro G; exact looked))); (apply dw_pure; (· exact rfl); (· exact rfl); (· (intro G; exact looked))); (apply dw_pure; (· exact rfl); (· exact rfl); (· (intro G; exact looked))); (apply dw_pure; (· exact rfl); (· exact rfl); (· (intro G; exact looked))); (apply dw_pure; (· exact rfl); (· exact rfl); (· (intro G; exact looked))); (apply dw_pure; (· exact rfl); (· exact rfl); (· (intro G; exact looked))); (apply dw_pure; (· exact rfl); (· exact rfl); (· (intro G; exact looked))); (apply dw_pure; (· exact rfl); (· exact rfl); (· (intro G; exact looked))); (apply dw_pure; (· exact rfl); (· exact rfl); (· (intro G; exact looked))); (apply dw_pure; (· exact rfl); (· exact rfl); (· (intro G; exact looked))); (apply dw_pure; (· exact rfl); (· exact rfl); (· (intro G; (first | (refine step_wanted rfl rfl ?_; (apply s_indexAddr (j := 0) (o' := ow); (· exact rfl); (· exact rfl); (· omega); (· omega); (· omega); (· exact rfl))) | skip); exact looked))); (apply dw_look; (· exact rfl); (· exact rfl); (· (exact looked))); (apply dw_pure; (· exact rfl); (· exact rfl); (· (intro G; exact looked))); (apply dw_pure; (· exact rfl); (· exact rfl); (· (intro G; exact looked))); (apply dw_pure; (· exact rfl); (· exact rfl); (· (intro G; exact looked))); (apply dw_pure; (· exact rfl); (· exact rfl); (· (intro G; exact looked))); (apply dw_pure; (· exact rfl); (· exact rfl); (· (intro G; exact looked))); (apply dw_pure; (· exact rfl); (· exact rfl); (· (intro G; (first | (refine step_wanted rfl rfl ?_; (apply s_sliceL (l := 1); (· exact rfl); (· exact rfl); (· omega); (· omega); (· exact rfl))) | skip); exact looked))); skip)
              refine dw_do rfl rfl ?_ dw_stop
              refine step_wanted rfl rfl ?_
              refine s_call rfl (sWaitingI (p := p) (S := S.set kk (l, c)) (hSa.lok (by omega)) hs2) rfl ?_
              rintro v20 _ rfl
              refine wpl_nil (qone ⟨(by refine st_past (by kernel_rfl) ?_; exact st_nil), ?_⟩)
              (skip)
              refine dw_do rfl rfl ?_ dw_stop
              refine step_wanted rfl rfl ?_
              refine s_call rfl (row_same (s := v20) (xs := l) (htl.ent InH.ent)) rfl ?_
              rintro _ _ ⟨rfl, rfl⟩
              refine wpl_nil (qone ⟨(by refine st_past (by kernel_rfl) ?_; exact st_nil), ?_⟩)
              ((apply dw_pure; (· exact rfl); (· exact rfl); (· (intro G; exact looked))); (apply dw_pure; (· exact rfl); (· exact rfl); (· (intro G; exact looked))); (apply dw_pure; (· exact rfl); (· exact rfl); (· (intro G; exact looked))); (apply dw_pure; (· exact rfl); (· exact rfl); (· (intro G; exact looked))); refine dw_nil ?_; skip)
              refine walk ?_
              refine s_store (v := .int .i64 (rl.getD kk 0 + 1)) (cs' := zs (rl.set kk (rl.getD kk 0 + 1))) rfl rfl rfl (by rw [zs_length, hG.lenR]; omega) (zs_set _ _ _) ?_
              refine walk ?_
              refine s_store (v := .int .i64 (gl.getD kk 0 + 1)) (cs' := zs (gl.set kk (gl.getD kk 0 + 1))) rfl rfl rfl (by rw [zs_length, hG.lenG]; omega) (zs_set _ _ _) ?_
              refine walk ?_
              exact ⟨(S.set kk (l, c), gl.set kk (gl.getD kk 0 + 1), rl.set kk (rl.getD kk 0 + 1)), asided, agreed, Ent.auto, by rw [List.length_set]; exact hSm, hSa, hG'⟩
          · have e0 : d1 ≠ 0 := fun e => h0 (.inl e)
            have e1 : d1 ≠ 1 := fun e => h0 (.inr e)
            by_cases h3 : d1 = 3
            · subst h3
              have hll : (leaveS S g1).length = S.length := by
                unfold leaveS
                split
                · rfl
                · rw [List.length_modify]
              refine walk ?_
              refine s_call rfl (sLeaveA (p := p) (S := S) (g := g1)) rfl ?_
              rintro _ _ ⟨rfl, rfl⟩
              refine walk ?_
              exact ⟨(leaveS S g1, gl, rl), asided, agreed, Ent.auto, by rw [hll]; exact hSm, sok_leave hS, hG.leave⟩
            · refine walk ?_
              exact ⟨(S, gl, rl), asided, agreed, Ent.auto, hSm, hS.up, hG.up⟩
      rintro ⟨S, gl, rl⟩ f1 ⟨hSm, hS, hG⟩
      simp only at hSm hS hG
      simp only [putAll]
      have hlok := hS.lok (show i + 1 ≤ 1000000 by omega)
      refine WP.know (fun w hw => semAt_fact hw) fun ⟨rs, wm, hf⟩ => ?_
      have hnd := allS_nd hf
      rw [hSm] at hnd
      refine walk ?_
      refine wp_loopF (α := Nat × Value) [6, 21, 22, 170, 171, 172, 173, 174, 175, 176, 177, 178, 179, 180, 181, 182, 183, 184, 185, 186, 187, 188, 189, 190, 191, 192, 193, 194, 195, 196, 197, 198, 199, 200, 201, 202, 203, 204, 205, 206, 207] (fun x => [(22, .int .i64 x.1), (21, x.2)]) (fun x => Mine 3 1 x.2 (allS S x.1).length (zs (allS S x.1)) + (SemAt p S + (blk bg (zs gl) 3 + (blk br (zs rl) 3 + F)))) (fun x => x.1 ≤ m ∧ (allS S x.1).length ≤ x.1 * 151) (fun x => m - x.1) (0, .slice none 0 0) agreed ?_ ⟨Nat.zero_le _, by simp [allS]⟩ ?_
      · show Ent _ (Mine 3 1 (.slice none 0 0) 0 [] + _)
        rw [Mine.nil, HProp.emp_add]
        exact Ent.refl _
      rintro ⟨j, va⟩ f2 ⟨hj, hjb⟩
      simp only at hj hjb
      simp only [putAll]
      by_cases hjl : j < m
      · obtain ⟨l, c, hs⟩ : ∃ l c, S[j]? = some (l, c) := ⟨_, _, List.getElem?_eq_getElem (by omega)⟩
        obtain ⟨hl0, hc0, hc1⟩ := hS.r _ _ _ hs
        obtain ⟨hbal, hzero⟩ := hG.bal _ _ _ hs
        have hbG := hG.bG j
        have hbR := hG.bR j
        have cg : Cell B (blk bg (zs gl) 3) bg j (.int .i64 (gl.getD j 0)) := cell_getD (by rw [hG.lenG]; omega)
        have cr : Cell B (blk br (zs rl) 3) br j (.int .i64 (rl.getD j 0)) := cell_getD (by rw [hG.lenR]; omega)
        by_cases hnil : l = []
        · subst hnil
          refine walk ?_
          (refine wp_draw [12, 18, 24] (.look 0 (.look 1 (.look 2 (.look 3 (.look 4 (.look 5 (.look 6 (.look 7 (.look 8 (.look 9 (.look 10 (.look 11 (.act 12 (.look 13 (.look 14 (.look 15 (.look 16 (.look 17 (.act 18 (.look 19 (.look 20 (.look 21 (.look 22 (.look 23 (.act 24 (.look 25 (.look 26 (.look 27 .nil))) .stop)))))) .stop)))))) .stop))))))))))))) (by kernel_rfl) ?_; (apply dw_pure; (· exact rfl); (· exact rfl); (· (intro G; exact looked))); (apply dw_pure; (· exact rfl); (· exact rfl); (· (intro G; exact looked))); (apply dw_pure; (· exact rfl); (· exact rfl); (· (intro G; exact looked))); (apply dw_look; (· exact rfl); (· exact rfl); (· (exact looked))); (apply dw_pure; (· exact rfl); (· exact rfl); (· (intro G; exact looked))); (apply dw_pure; (· exact rfl); (· exact rfl); (· (intro G; exact looked))); (apply dw_pure; (· exact rfl); (· exact rfl); (· (intro G; exact looked))); (apply dw_pure; (· exact rfl); (· exact rfl); (· (intro G; exact looked))); (apply dw_look; (· exact rfl); (· exact rfl); (· (exact looked))); (apply dw_pure; (· exact rfl); (· exact rfl); (· (intro G; exact looked))); (apply dw_pure; (· exact rfl); (· exact rfl); (· (intro G; exact looked))); (apply dw_pure; (· exact rfl); (· exact rfl); (· (intro G; exact looked))); skip)
          refine dw_do rfl rfl ?_ dw_stop
          refine s_call rfl (sCountI (p := p) (S := S) hs) rfl ?_
          rintro _ _ ⟨e_, rfl⟩
          obtain rfl := e_.symm
          refine wpl_nil (qone ⟨(by (refine st_again ?_ ?_; (· exact looked)); (refine st_again ?_ ?_; (· exact looked)); exact st_nil), ?_⟩)
          ((apply dw_pure; (· exact rfl); (· exact rfl); (· (intro G; exact looked))); (apply dw_pure; (· exact rfl); (· exact rfl); (· (intro G; exact looked))); (apply dw_pure; (· exact rfl); (· exact rfl); (· (intro G; exact looked))); (apply dw_pure; (· exact rfl); (· exact rfl); (· (intro G; exact looked))); (apply dw_pure; (· exact rfl); (· exact rfl); (· (intro G; exact looked))); skip)
          refine dw_do rfl rfl ?_ dw_stop
          refine step_wanted rfl rfl ?_
          refine s_call rfl (sWaitingI (p := p) (S := S) hlok hs) rfl ?_
          rintro v18 _ rfl
          refine WPL.shape ?_
          rintro a18 c18 rfl _ hc18 hm18
          simp only [List.length_nil]
          refine wpl_nil (qone ⟨(by refine st_past (by kernel_rfl) ?_; refine st_past (by kernel_rfl) ?_; exact st_nil), ?_⟩)
          ((apply dw_pure; (· exact rfl); (· exact rfl); (· (intro G; exact looked))); (apply dw_pure; (· exact rfl); (· exact rfl); (· (intro G; exact looked))); (apply dw_pure; (· exact rfl); (· exact rfl); (· (intro G; exact looked))); (apply dw_pure; (· exact rfl); (· exact rfl); (· (intro G; exact looked))); (apply dw_pure; (· exact rfl); (· exact rfl); (· (intro G; exact looked))); skip)
          refine dw_do rfl rfl ?_ dw_stop
          (first | refine step_unwanted rfl rfl rfl rfl ?_ | refine step_unwantedU rfl rfl rfl ?_ | refine step_unwanted0 rfl rfl rfl ?_ | refine step_unwantedU0 rfl rfl ?_)
          refine wpl_nil (qone ⟨(by refine st_past (by kernel_rfl) ?_; refine st_past (by kernel_rfl) ?_; exact st_nil), ?_⟩)
          ((apply dw_pure; (· exact rfl); (· exact rfl); (· (intro G; exact looked))); (apply dw_pure; (· exact rfl); (· exact rfl); (· (intro G; exact looked))); (apply dw_pure; (· exact rfl); (· exact rfl); (· (intro G; exact looked))); refine dw_nil ?_; skip)
          refine walk ?_
          refine s_call rfl (sWaitingI (p := p) (S := S) hlok hs) rfl ?_
          rintro v37 _ rfl
          refine WPL.rd fun rd37 => ?_
          refine walk ?_
          refine s_append (v := va) rfl rfl (rd37.ent InH.ent) (zs_one _) rfl ?_ rfl ?_
          · simp only [maxLen]; omega
          intro va'
          rw [← zs_append, ← List.length_append, ← allS_next hs]
          refine walk ?_
          exact ⟨(j + 1, va'), asided, agreed, Ent.auto, ⟨hjl, by simp only; rw [allS_next hs, List.length_append]; omega⟩, by simp only; omega⟩
        · have hz := hzero hnil
          have hpos : 0 < l.length := List.length_pos_iff.2 hnil
          refine walk ?_
          (refine wp_draw [12, 18, 24] (.look 0 (.look 1 (.look 2 (.look 3 (.look 4 (.look 5 (.look 6 (.look 7 (.look 8 (.look 9 (.look 10 (.look 11 (.act 12 (.look 13 (.look 14 (.look 15 (.look 16 (.look 17 (.act 18 (.look 19 (.look 20 (.look 21 (.look 22 (.look 23 (.act 24 (.look 25 (.look 26 (.look 27 .nil))) .stop)))))) .stop)))))) .stop))))))))))))) (by kernel_rfl) ?_; (apply dw_pure; (· exact rfl); (· exact rfl); (· (intro G; exact looked))); (apply dw_pure; (· exact rfl); (· exact rfl); (· (intro G; exact looked))); (apply dw_pure; (· exact rfl); (· exact rfl); (· (intro G; exact looked))); (apply dw_look; (· exact rfl); (· exact rfl); (· (exact looked))); (apply dw_pure; (· exact rfl); (· exact rfl); (· (intro G; exact looked))); (apply dw_pure; (· exact rfl); (· exact rfl); (· (intro G; exact looked))); (apply dw_pure; (· exact rfl); (· exact rfl); (· (intro G; exact looked))); (apply dw_pure; (· exact rfl); (· exact rfl); (· (intro G; exact looked))); (apply dw_look; (· exact rfl); (· exact rfl); (· (exact looked))); (apply dw_pure; (· exact rfl); (· exact rfl); (· (intro G; exact looked))); (apply dw_pure; (· exact rfl); (· exact rfl); (· (intro G; exact looked))); (apply dw_pure; (· exact rfl); (· exact rfl); (· (intro G; exact looked))); skip)
          refine dw_do rfl rfl ?_ dw_stop
          refine s_call rfl (sCountI (p := p) (S := S) hs) rfl ?_
          rintro _ _ ⟨e_, rfl⟩
          obtain rfl := e_.symm
          refine wpl_nil (qone ⟨(by (refine st_again ?_ ?_; (· exact looked)); (refine st_again ?_ ?_; (· exact looked)); exact st_nil), ?_⟩)
          ((apply dw_pure; (· exact rfl); (· exact rfl); (· (intro G; exact looked))); (apply dw_pure; (· exact rfl); (· exact rfl); (· (intro G; exact looked))); (apply dw_pure; (· exact rfl); (· exact rfl); (· (intro G; exact looked))); (apply dw_pure; (· exact rfl); (· exact rfl); (· (intro G; exact looked))); (apply dw_pure; (· exact rfl); (· exact rfl); (· (intro G; exact looked))); skip)
          refine dw_do rfl rfl ?_ dw_stop
          refine step_wanted rfl rfl ?_
          refine s_call rfl (sWaitingI (p := p) (S := S) hlok hs) rfl ?_
          rintro v18 _ rfl
          refine WPL.shape ?_
          rintro a18 c18 rfl _ hc18 hm18
          refine wpl_nil (qone ⟨(by refine st_past (by kernel_rfl) ?_; refine st_past (by kernel_rfl) ?_; exact st_nil), ?_⟩)
          ((apply dw_pure; (· exact rfl); (· exact rfl); (· (intro G; exact looked))); (apply dw_pure; (· exact rfl); (· exact rfl); (· (intro G; exact looked))); (apply dw_pure; (· exact rfl); (· exact rfl); (· (intro G; exact looked))); (apply dw_pure; (· exact rfl); (· exact rfl); (· (intro G; exact looked))); (apply dw_pure; (· exact rfl); (· exact rfl); (· (intro G; exact looked))); skip)
          refine dw_do rfl rfl ?_ dw_stop
          refine step_wanted rfl rfl ?_
          refine s_call rfl (sCountI (p := p) (S := S) hs) rfl ?_
          rintro _ _ ⟨e_, rfl⟩
          obtain rfl := e_.symm
          refine wpl_nil (qone ⟨(by refine st_past (by kernel_rfl) ?_; refine st_past (by kernel_rfl) ?_; exact st_nil), ?_⟩)
          ((apply dw_pure; (· exact rfl); (· exact rfl); (· (intro G; exact looked))); (apply dw_pure; (· exact rfl); (· exact rfl); (· (intro G; exact looked))); (apply dw_pure; (· exact rfl); (· exact rfl); (· (intro G; exact looked))); refine dw_nil ?_; skip)
          refine walk ?_
          refine s_call rfl (sWaitingI (p := p) (S := S) hlok hs) rfl ?_
          rintro v37 _ rfl
          refine WPL.rd fun rd37 => ?_
          refine walk ?_
          refine s_append (v := va) rfl rfl (rd37.ent InH.ent) (zs_one _) rfl ?_ rfl ?_
          · simp only [maxLen]; omega
          intro va'
          rw [← zs_append, ← List.length_append, ← allS_next hs]
          refine walk ?_
          exact ⟨(j + 1, va'), asided, agreed, Ent.auto, ⟨hjl, by simp only; rw [allS_next hs, List.length_append]; omega⟩, by simp only; omega⟩
      · obtain rfl : j = m := by omega
        refine WP.shape ?_
        rintro aa ca rfl _ hca hma
        refine WP.rd fun rda => ?_
        refine walk ?_
        refine s_call rfl (pushN14 (rda.ent InH.ent) hca hnd (by omega)) rfl ?_
        rintro _ _ ⟨e_, au, nu, cu, rfl⟩
        obtain rfl := e_.symm
        refine walk ?_
        exact ⟨(i + 1, S, gl, rl), asided, agreed, Ent.auto, ⟨hlt, hSm, hS, hG⟩, by simp only; omega⟩
    · refine walk ?_
      refine s_call rfl (works_spec) rfl ?_
      rintro _ _ ⟨e_, rfl⟩
      obtain rfl := e_.symm
      refine walk ?_
      (first | (apply retRD1 (G := F) (.inr rfl) rfl; (· first | (refine rv_tmp (v := .bool _) rfl) | exact rv_tmp rfl); (· exact Ent.auto)) | (apply retRD1 (G := F) (.inl rfl) rfl; (· first | (refine rv_tmp (v := .bool _) rfl) | exact rv_tmp rfl); (· exact Ent.auto)))
      exact ⟨rfl, rfl⟩
  · refine walk ?_
    refine s_call rfl (works_spec) rfl ?_
    rintro _ _ ⟨e_, rfl⟩
    obtain rfl := e_.symm
    refine walk ?_
    (first | refine ret1 (v := .bool _) (.inr rfl) rfl rfl ?_ | refine ret1  (.inr rfl) rfl rfl ?_ | refine ret1 (v := .bool _) (.inl rfl) rfl rfl ?_ | refine ret1  (.inl rfl) rfl rfl ?_)
    exact ⟨rfl, rfl⟩
end
end Go.Proofs.Ytgdeemneijpeeaa
