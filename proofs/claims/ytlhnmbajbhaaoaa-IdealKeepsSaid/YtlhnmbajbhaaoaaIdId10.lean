/- A system at first. No condition. -/
import Derived.Test.YtlhnmbajbhaaoaaIdId9
namespace Go.Proofs.Ytlhnmbajbhaaoaa
open Go Go.SL
set_option linter.unusedSimpArgs false
set_option linter.unusedVariables false
set_option maxRecDepth 10000
set_option maxHeartbeats 2000000
def restM : Mc := ⟨0, -1, -1, 0⟩
def zeroM : Mc := ⟨0, 0, 0, 0⟩
def newI0 (c : Cfg) : Ide := { c := c, tab := (Tab.new c.g.toNat).make.2.2, sem := newS 4 c.s, ms := List.replicate c.m.toNat restM, ps := List.replicate c.n.toNat (-1), many := 0 }
/-- The system of a config at first. -/
def newI (c : Cfg) : Ide := (newI0 c).has 0 0 1 (-1)
theorem zeros_mcs (m : Nat) : (List.replicate m [Value.int .i64 0, Value.int .i64 0, Value.int .i64 0, Value.int .i64 0]).flatten = mcs (List.replicate m zeroM) := by
  induction m with
  | zero => rfl
  | succ m ih => simp only [List.replicate_succ, List.flatten_cons, mcs, mcC, zeroM] at ih ⊢; rw [ih]
theorem zeros_zs (m : Nat) : (List.replicate m [Value.int .i64 0]).flatten = zs (List.replicate m 0) := by
  induction m with
  | zero => rfl
  | succ m ih => simp only [List.replicate_succ, List.flatten_cons, zs, List.map_cons] at ih ⊢; rw [ih]; rfl
theorem rep_step {α : Type} {a z : α} {m k : Nat} (h : k < m) : (List.replicate k a ++ List.replicate (m - k) z).set k a = List.replicate (k + 1) a ++ List.replicate (m - (k + 1)) z := by
  have e : m - k = (m - (k + 1)) + 1 := by omega
  rw [e, List.replicate_succ, List.set_append_right _ _ (by simp), List.length_replicate, Nat.sub_self, List.set_cons_zero, List.replicate_succ', List.append_assoc]
  rfl
theorem rep_mod {m k : Nat} (h : k < m) : (List.replicate k restM ++ List.replicate (m - k) zeroM).modify k (fun x => { x with a := 0, p := -1, g := -1 }) = List.replicate (k + 1) restM ++ List.replicate (m - (k + 1)) zeroM := by
  have hl : k < (List.replicate k restM ++ List.replicate (m - k) zeroM).length := by simp; omega
  rw [modify_at (a := zeroM) (by rw [List.getElem?_append_right (by simp), List.length_replicate, Nat.sub_self, List.getElem?_replicate, if_pos (by omega)])]
  exact rep_step h
theorem new_ok {c : Cfg} (hc : RightP c) : (newI c).ok 1 := by
  obtain ⟨r, c1, c2, c3, c4, c5, c6, c7, c8, c9, c10⟩ := hc
  have h0 : (newI0 c).ok 1 := by
    refine ⟨⟨r, c1, c2, c3, c4, c5, c6, c7, c8, c9, c10⟩, ?_, ?_, ?_, ?_, ?_, rfl, ?_, ?_⟩
    · show ((List.replicate c.m.toNat restM).length : Int) = c.m
      rw [List.length_replicate]; omega
    · show ((List.replicate c.n.toNat (-1 : Int)).length : Int) = c.n
      rw [List.length_replicate]; omega
    · intro q hq
      have := List.eq_of_mem_replicate hq
      show q < c.m
      omega
    · exact (Tab.ok.new (m := c.g.toNat) (by omega)).make
    · show ((Tab.new c.g.toNat).make.2.2.all.length : Int) = c.g
      rw [Tab.make_len]
      simp [Tab.new]; omega
    · intro i l x h
      have hm := List.mem_of_getElem? h
      have := List.eq_of_mem_replicate hm
      have e : l = [] := congrArg (·.1) this
      rw [e]; simp
    · show 0 ≤ (0 : Int) ∧ (0 : Int) ≤ 1; omega
  exact h0.has (by show (0 : Int) < c.m; omega)
attribute [local irreducible] WP WPL QSeq QBlk QRet Does Cell Cells Rd Mine Ent Aside RV Yield TabAt SemAt
section
variable {B : World} {H F G : HProp} {x : Nat} {c : Cfg}
theorem iNew_no (h : ¬ RightP c) : Does Try.prog B 7 [cfgV c] H fun r H' => H' = H ∧ r = .pointer none := by
  refine Does.frame0 ?_
  refine fn_intro 70 Try.func7 rfl rfl rfl ?_
  refine walk ?_
  refine s_box (cs := cv c) rfl rfl rfl ?_
  intro b
  refine walk ?_
  refine s_call rfl (cRight (c := c)) rfl ?_
  rintro _ _ ⟨e_, rfl⟩
  obtain rfl := e_.symm
  refine walk ?_
  rw [decide_eq_false h]
  refine walk ?_
  (first | (apply retRD1 (G := H) (.inr rfl) rfl; (· first | (refine rv_tmp (v := .pointer _) rfl) | exact rv_tmp rfl); (· exact Ent.auto)) | (apply retRD1 (G := H) (.inl rfl) rfl; (· first | (refine rv_tmp (v := .pointer _) rfl) | exact rv_tmp rfl); (· exact Ent.auto)))
  exact ⟨Ent.refl _, rfl⟩
theorem iNew (h : RightP c) : Does Try.prog B 7 [cfgV c] H fun r H' => ∃ x L, L.I = newI c ∧ H' = IdeAt x L + H ∧ r = ptr x := by
  have hr := h
  obtain ⟨_, c1, c2, c3, c4, c5, c6, _, _, c9, c10⟩ := h
  obtain ⟨m, hm⟩ := Int.eq_ofNat_of_zero_le (show 0 ≤ c.m by omega)
  obtain ⟨n, hn⟩ := Int.eq_ofNat_of_zero_le (show 0 ≤ c.n by omega)
  obtain ⟨g, hg⟩ := Int.eq_ofNat_of_zero_le (show 0 ≤ c.g by omega)
  have okT : (Tab.new g).ok 0 := Tab.ok.new (by omega)
  refine fn_intro 70 Try.func7 rfl rfl rfl ?_
  refine walk ?_
  refine s_box (cs := cv c) rfl rfl rfl ?_
  intro b
  refine walk ?_
  refine s_call rfl (cRight (c := c)) rfl ?_
  rintro _ _ ⟨e_, rfl⟩
  obtain rfl := e_.symm
  refine walk ?_
  rw [decide_eq_true hr]
  refine walk ?_
  refine wp_cut_here (α := Nat × Nat × Nat × Nat) [3, 9, 10, 11, 12, 13, 14, 15, 16, 17, 18, 19, 20] (fun z => [(3, ptr z.1)])
    (fun z => blk z.1 [.int .i64 c.n, .int .i64 c.q, .int .i64 c.g, .int .i64 c.m, .int .i64 c.t, .int .i64 c.s, ptr z.2.1, .pointer none, .slice (some ⟨z.2.2.1, 0, none⟩) m m, .slice (some ⟨z.2.2.2, 0, none⟩) n n, .int .i64 0] 56 + (blk z.2.2.1 (mcs (List.replicate m zeroM)) 61 + (blk z.2.2.2 (zs (List.replicate n 0)) 3 + (TabAt z.2.1 (Tab.new g) + (blk b (cv c) 23 + H))))) (fun _ => True) ?_ ?_
  · skip
    (refine wp_draw [3, 6, 9, 11] (.look 0 (.look 1 (.look 2 (.look 4 (.look 5 (.look 7 (.look 8 (.act 3 (.act 6 (.act 9 (.look 10 (.act 11 (.look 12 .nil) .stop)) .stop) (.act 9 (.act 6 (.look 10 (.act 11 (.look 12 .nil) .stop)) .stop) .stop)) (.act 6 (.act 3 (.act 9 (.look 10 (.act 11 (.look 12 .nil) .stop)) .stop) (.act 9 (.act 3 (.look 10 (.act 11 (.look 12 .nil) .stop)) .stop) .stop)) (.act 9 (.act 3 (.act 6 (.look 10 (.act 11 (.look 12 .nil) .stop)) .stop) (.act 6 (.act 3 (.look 10 (.act 11 (.look 12 .nil) .stop)) .stop) .stop)) .stop)))))))))) (by kernel_rfl) ?_; (apply dw_look; (· exact rfl); (· exact rfl); (· (exact looked))); (apply dw_pure; (· exact rfl); (· exact rfl); (· (intro G; exact looked))); (apply dw_look; (· exact rfl); (· exact rfl); (· (exact looked))); (apply dw_pure; (· exact rfl); (· exact rfl); (· (intro G; exact looked))); (apply dw_look; (· exact rfl); (· exact rfl); (· (exact looked))); (apply dw_pure; (· exact rfl); (· exact rfl); (· (intro G; exact looked))); (apply dw_look; (· exact rfl); (· exact rfl); (· (exact looked))); skip)
    refine dw_do rfl rfl ?_ (dw_do rfl rfl ?_ (dw_do rfl rfl ?_ dw_stop))
    · skip
      refine s_call rfl (tNew (n := c.g) (m := g) (by omega)) rfl ?_
      rintro _ _ ⟨q, rfl, rfl⟩
      refine wpl_nil (qone ⟨(by (refine st_again ?_ ?_; (· exact looked)); (refine st_again ?_ ?_; (· exact looked)); refine st_past (by kernel_rfl) ?_; (refine st_again ?_ ?_; (· exact looked)); exact st_nil), ?_⟩)
      (skip)
      refine dw_do rfl rfl ?_ (dw_do rfl rfl ?_ dw_stop)
      · skip
        refine s_makeSlice (k := m) (c := m) (by rw [← hm]; rfl) (by rw [← hm]; rfl) (Nat.le_refl _) ?_ rfl ?_
        · simp only [maxLen]; omega
        intro bm
        rw [zeros_mcs]
        refine wpl_nil (qone ⟨(by (refine st_again ?_ ?_; (· exact looked)); refine st_past (by kernel_rfl) ?_; (refine st_again ?_ ?_; (· exact looked)); (refine st_again ?_ ?_; (· exact looked)); exact st_nil), ?_⟩)
        (skip)
        refine dw_do rfl rfl ?_ dw_stop
        refine s_makeSlice (k := n) (c := n) (by rw [← hn]; rfl) (by rw [← hn]; rfl) (Nat.le_refl _) ?_ rfl ?_
        · simp only [maxLen]; omega
        intro bp
        rw [zeros_zs]
        refine wpl_nil (qone ⟨(by refine st_past (by kernel_rfl) ?_; (refine st_again ?_ ?_; (· exact looked)); (refine st_again ?_ ?_; (· exact looked)); (refine st_again ?_ ?_; (· exact looked)); exact st_nil), ?_⟩)
        ((apply dw_pure; (· exact rfl); (· exact rfl); (· (intro G; (refine s_build (cs := [.int .i64 c.n, .int .i64 c.q, .int .i64 c.g, .int .i64 c.m, .int .i64 c.t, .int .i64 c.s, ptr q, .pointer none, .slice (some ⟨bm, 0, none⟩) m m, .slice (some ⟨bp, 0, none⟩) n n, .int .i64 0]) ?_ rfl ?_; (· kernel_rfl)); exact looked))); skip)
        refine dw_do rfl rfl ?_ dw_stop
        refine s_box (cs := [.int .i64 c.n, .int .i64 c.q, .int .i64 c.g, .int .i64 c.m, .int .i64 c.t, .int .i64 c.s, ptr q, .pointer none, .slice (some ⟨bm, 0, none⟩) m m, .slice (some ⟨bp, 0, none⟩) n n, .int .i64 0]) rfl rfl rfl ?_
        intro x
        refine wpl_nil (qone ⟨(by refine st_past (by kernel_rfl) ?_; refine st_past (by kernel_rfl) ?_; refine st_past (by kernel_rfl) ?_; refine st_past (by kernel_rfl) ?_; exact st_nil), ?_⟩)
        ((apply dw_pure; (· exact rfl); (· exact rfl); (· (intro G; exact looked))); refine dw_nil ?_; skip)
        refine walk ?_
        exact ⟨(x, q, bm, bp), asided, agreed, Ent.auto, trivial⟩
      · skip
        refine s_makeSlice (k := n) (c := n) (by rw [← hn]; rfl) (by rw [← hn]; rfl) (Nat.le_refl _) ?_ rfl ?_
        · simp only [maxLen]; omega
        intro bp
        rw [zeros_zs]
        refine wpl_nil (qone ⟨(by refine st_past (by kernel_rfl) ?_; (refine st_again ?_ ?_; (· exact looked)); (refine st_again ?_ ?_; (· exact looked)); (refine st_again ?_ ?_; (· exact looked)); exact st_nil), ?_⟩)
        (skip)
        refine dw_do rfl rfl ?_ dw_stop
        refine s_makeSlice (k := m) (c := m) (by rw [← hm]; rfl) (by rw [← hm]; rfl) (Nat.le_refl _) ?_ rfl ?_
        · simp only [maxLen]; omega
        intro bm
        rw [zeros_mcs]
        refine wpl_nil (qone ⟨(by (refine st_again ?_ ?_; (· exact looked)); refine st_past (by kernel_rfl) ?_; (refine st_again ?_ ?_; (· exact looked)); (refine st_again ?_ ?_; (· exact looked)); exact st_nil), ?_⟩)
        ((apply dw_pure; (· exact rfl); (· exact rfl); (· (intro G; (refine s_build (cs := [.int .i64 c.n, .int .i64 c.q, .int .i64 c.g, .int .i64 c.m, .int .i64 c.t, .int .i64 c.s, ptr q, .pointer none, .slice (some ⟨bm, 0, none⟩) m m, .slice (some ⟨bp, 0, none⟩) n n, .int .i64 0]) ?_ rfl ?_; (· kernel_rfl)); exact looked))); skip)
        refine dw_do rfl rfl ?_ dw_stop
        refine s_box (cs := [.int .i64 c.n, .int .i64 c.q, .int .i64 c.g, .int .i64 c.m, .int .i64 c.t, .int .i64 c.s, ptr q, .pointer none, .slice (some ⟨bm, 0, none⟩) m m, .slice (some ⟨bp, 0, none⟩) n n, .int .i64 0]) rfl rfl rfl ?_
        intro x
        refine wpl_nil (qone ⟨(by refine st_past (by kernel_rfl) ?_; refine st_past (by kernel_rfl) ?_; refine st_past (by kernel_rfl) ?_; refine st_past (by kernel_rfl) ?_; exact st_nil), ?_⟩)
        ((apply dw_pure; (· exact rfl); (· exact rfl); (· (intro G; exact looked))); refine dw_nil ?_; skip)
        refine walk ?_
        exact ⟨(x, q, bm, bp), asided, agreed, Ent.auto, trivial⟩
    · skip
      refine s_makeSlice (k := m) (c := m) (by rw [← hm]; rfl) (by rw [← hm]; rfl) (Nat.le_refl _) ?_ rfl ?_
      · simp only [maxLen]; omega
      intro bm
      rw [zeros_mcs]
      refine wpl_nil (qone ⟨(by (refine st_again ?_ ?_; (· exact looked)); refine st_past (by kernel_rfl) ?_; (refine st_again ?_ ?_; (· exact looked)); (refine st_again ?_ ?_; (· exact looked)); exact st_nil), ?_⟩)
      (skip)
      refine dw_do rfl rfl ?_ (dw_do rfl rfl ?_ dw_stop)
      · skip
        refine s_call rfl (tNew (n := c.g) (m := g) (by omega)) rfl ?_
        rintro _ _ ⟨q, rfl, rfl⟩
        refine wpl_nil (qone ⟨(by (refine st_again ?_ ?_; (· exact looked)); (refine st_again ?_ ?_; (· exact looked)); refine st_past (by kernel_rfl) ?_; (refine st_again ?_ ?_; (· exact looked)); exact st_nil), ?_⟩)
        (skip)
        refine dw_do rfl rfl ?_ dw_stop
        refine s_makeSlice (k := n) (c := n) (by rw [← hn]; rfl) (by rw [← hn]; rfl) (Nat.le_refl _) ?_ rfl ?_
        · simp only [maxLen]; omega
        intro bp
        rw [zeros_zs]
        refine wpl_nil (qone ⟨(by refine st_past (by kernel_rfl) ?_; (refine st_again ?_ ?_; (· exact looked)); (refine st_again ?_ ?_; (· exact looked)); (refine st_again ?_ ?_; (· exact looked)); exact st_nil), ?_⟩)
        ((apply dw_pure; (· exact rfl); (· exact rfl); (· (intro G; (refine s_build (cs := [.int .i64 c.n, .int .i64 c.q, .int .i64 c.g, .int .i64 c.m, .int .i64 c.t, .int .i64 c.s, ptr q, .pointer none, .slice (some ⟨bm, 0, none⟩) m m, .slice (some ⟨bp, 0, none⟩) n n, .int .i64 0]) ?_ rfl ?_; (· kernel_rfl)); exact looked))); skip)
        refine dw_do rfl rfl ?_ dw_stop
        refine s_box (cs := [.int .i64 c.n, .int .i64 c.q, .int .i64 c.g, .int .i64 c.m, .int .i64 c.t, .int .i64 c.s, ptr q, .pointer none, .slice (some ⟨bm, 0, none⟩) m m, .slice (some ⟨bp, 0, none⟩) n n, .int .i64 0]) rfl rfl rfl ?_
        intro x
        refine wpl_nil (qone ⟨(by refine st_past (by kernel_rfl) ?_; refine st_past (by kernel_rfl) ?_; refine st_past (by kernel_rfl) ?_; refine st_past (by kernel_rfl) ?_; exact st_nil), ?_⟩)
        ((apply dw_pure; (· exact rfl); (· exact rfl); (· (intro G; exact looked))); refine dw_nil ?_; skip)
        refine walk ?_
        exact ⟨(x, q, bm, bp), asided, agreed, Ent.auto, trivial⟩
      · skip
        refine s_makeSlice (k := n) (c := n) (by rw [← hn]; rfl) (by rw [← hn]; rfl) (Nat.le_refl _) ?_ rfl ?_
        · simp only [maxLen]; omega
        intro bp
        rw [zeros_zs]
        refine wpl_nil (qone ⟨(by refine st_past (by kernel_rfl) ?_; (refine st_again ?_ ?_; (· exact looked)); (refine st_again ?_ ?_; (· exact looked)); (refine st_again ?_ ?_; (· exact looked)); exact st_nil), ?_⟩)
        (skip)
        refine dw_do rfl rfl ?_ dw_stop
        refine s_call rfl (tNew (n := c.g) (m := g) (by omega)) rfl ?_
        rintro _ _ ⟨q, rfl, rfl⟩
        refine wpl_nil (qone ⟨(by (refine st_again ?_ ?_; (· exact looked)); (refine st_again ?_ ?_; (· exact looked)); refine st_past (by kernel_rfl) ?_; (refine st_again ?_ ?_; (· exact looked)); exact st_nil), ?_⟩)
        ((apply dw_pure; (· exact rfl); (· exact rfl); (· (intro G; (refine s_build (cs := [.int .i64 c.n, .int .i64 c.q, .int .i64 c.g, .int .i64 c.m, .int .i64 c.t, .int .i64 c.s, ptr q, .pointer none, .slice (some ⟨bm, 0, none⟩) m m, .slice (some ⟨bp, 0, none⟩) n n, .int .i64 0]) ?_ rfl ?_; (· kernel_rfl)); exact looked))); skip)
        refine dw_do rfl rfl ?_ dw_stop
        refine s_box (cs := [.int .i64 c.n, .int .i64 c.q, .int .i64 c.g, .int .i64 c.m, .int .i64 c.t, .int .i64 c.s, ptr q, .pointer none, .slice (some ⟨bm, 0, none⟩) m m, .slice (some ⟨bp, 0, none⟩) n n, .int .i64 0]) rfl rfl rfl ?_
        intro x
        refine wpl_nil (qone ⟨(by refine st_past (by kernel_rfl) ?_; refine st_past (by kernel_rfl) ?_; refine st_past (by kernel_rfl) ?_; refine st_past (by kernel_rfl) ?_; exact st_nil), ?_⟩)
        ((apply dw_pure; (· exact rfl); (· exact rfl); (· (intro G; exact looked))); refine dw_nil ?_; skip)
        refine walk ?_
        exact ⟨(x, q, bm, bp), asided, agreed, Ent.auto, trivial⟩
    · skip
      refine s_makeSlice (k := n) (c := n) (by rw [← hn]; rfl) (by rw [← hn]; rfl) (Nat.le_refl _) ?_ rfl ?_
      · simp only [maxLen]; omega
      intro bp
      rw [zeros_zs]
      refine wpl_nil (qone ⟨(by refine st_past (by kernel_rfl) ?_; (refine st_again ?_ ?_; (· exact looked)); (refine st_again ?_ ?_; (· exact looked)); (refine st_again ?_ ?_; (· exact looked)); exact st_nil), ?_⟩)
      (skip)
      refine dw_do rfl rfl ?_ (dw_do rfl rfl ?_ dw_stop)
      · skip
        refine s_call rfl (tNew (n := c.g) (m := g) (by omega)) rfl ?_
        rintro _ _ ⟨q, rfl, rfl⟩
        refine wpl_nil (qone ⟨(by (refine st_again ?_ ?_; (· exact looked)); (refine st_again ?_ ?_; (· exact looked)); refine st_past (by kernel_rfl) ?_; (refine st_again ?_ ?_; (· exact looked)); exact st_nil), ?_⟩)
        (skip)
        refine dw_do rfl rfl ?_ dw_stop
        refine s_makeSlice (k := m) (c := m) (by rw [← hm]; rfl) (by rw [← hm]; rfl) (Nat.le_refl _) ?_ rfl ?_
        · simp only [maxLen]; omega
        intro bm
        rw [zeros_mcs]
        refine wpl_nil (qone ⟨(by (refine st_again ?_ ?_; (· exact looked)); refine st_past (by kernel_rfl) ?_; (refine st_again ?_ ?_; (· exact looked)); (refine st_again ?_ ?_; (· exact looked)); exact st_nil), ?_⟩)
        ((apply dw_pure; (· exact rfl); (· exact rfl); (· (intro G; (refine s_build (cs := [.int .i64 c.n, .int .i64 c.q, .int .i64 c.g, .int .i64 c.m, .int .i64 c.t, .int .i64 c.s, ptr q, .pointer none, .slice (some ⟨bm, 0, none⟩) m m, .slice (some ⟨bp, 0, none⟩) n n, .int .i64 0]) ?_ rfl ?_; (· kernel_rfl)); exact looked))); skip)
        refine dw_do rfl rfl ?_ dw_stop
        refine s_box (cs := [.int .i64 c.n, .int .i64 c.q, .int .i64 c.g, .int .i64 c.m, .int .i64 c.t, .int .i64 c.s, ptr q, .pointer none, .slice (some ⟨bm, 0, none⟩) m m, .slice (some ⟨bp, 0, none⟩) n n, .int .i64 0]) rfl rfl rfl ?_
        intro x
        refine wpl_nil (qone ⟨(by refine st_past (by kernel_rfl) ?_; refine st_past (by kernel_rfl) ?_; refine st_past (by kernel_rfl) ?_; refine st_past (by kernel_rfl) ?_; exact st_nil), ?_⟩)
        ((apply dw_pure; (· exact rfl); (· exact rfl); (· (intro G; exact looked))); refine dw_nil ?_; skip)
        refine walk ?_
        exact ⟨(x, q, bm, bp), asided, agreed, Ent.auto, trivial⟩
      · skip
        refine s_makeSlice (k := m) (c := m) (by rw [← hm]; rfl) (by rw [← hm]; rfl) (Nat.le_refl _) ?_ rfl ?_
        · simp only [maxLen]; omega
        intro bm
        rw [zeros_mcs]
        refine wpl_nil (qone ⟨(by (refine st_again ?_ ?_; (· exact looked)); refine st_past (by kernel_rfl) ?_; (refine st_again ?_ ?_; (· exact looked)); (refine st_again ?_ ?_; (· exact looked)); exact st_nil), ?_⟩)
        (skip)
        refine dw_do rfl rfl ?_ dw_stop
        refine s_call rfl (tNew (n := c.g) (m := g) (by omega)) rfl ?_
        rintro _ _ ⟨q, rfl, rfl⟩
        refine wpl_nil (qone ⟨(by (refine st_again ?_ ?_; (· exact looked)); (refine st_again ?_ ?_; (· exact looked)); refine st_past (by kernel_rfl) ?_; (refine st_again ?_ ?_; (· exact looked)); exact st_nil), ?_⟩)
        ((apply dw_pure; (· exact rfl); (· exact rfl); (· (intro G; (refine s_build (cs := [.int .i64 c.n, .int .i64 c.q, .int .i64 c.g, .int .i64 c.m, .int .i64 c.t, .int .i64 c.s, ptr q, .pointer none, .slice (some ⟨bm, 0, none⟩) m m, .slice (some ⟨bp, 0, none⟩) n n, .int .i64 0]) ?_ rfl ?_; (· kernel_rfl)); exact looked))); skip)
        refine dw_do rfl rfl ?_ dw_stop
        refine s_box (cs := [.int .i64 c.n, .int .i64 c.q, .int .i64 c.g, .int .i64 c.m, .int .i64 c.t, .int .i64 c.s, ptr q, .pointer none, .slice (some ⟨bm, 0, none⟩) m m, .slice (some ⟨bp, 0, none⟩) n n, .int .i64 0]) rfl rfl rfl ?_
        intro x
        refine wpl_nil (qone ⟨(by refine st_past (by kernel_rfl) ?_; refine st_past (by kernel_rfl) ?_; refine st_past (by kernel_rfl) ?_; refine st_past (by kernel_rfl) ?_; exact st_nil), ?_⟩)
        ((apply dw_pure; (· exact rfl); (· exact rfl); (· (intro G; exact looked))); refine dw_nil ?_; skip)
        refine walk ?_
        exact ⟨(x, q, bm, bp), asided, agreed, Ent.auto, trivial⟩
  rintro ⟨x, q, bm, bp⟩ f1 _
  simp only [putAll]
  refine walk ?_
  refine s_call rfl (sNew (n := 4) (c := c.s) (by omega) (by omega) (by omega)) rfl ?_
  rintro _ _ ⟨s, rfl, rfl⟩
  refine walk ?_
  refine s_store (v := ptr s) (cs' := [.int .i64 c.n, .int .i64 c.q, .int .i64 c.g, .int .i64 c.m, .int .i64 c.t, .int .i64 c.s, ptr q, ptr s, .slice (some ⟨bm, 0, none⟩) m m, .slice (some ⟨bp, 0, none⟩) n n, .int .i64 0]) rfl rfl rfl (by simp) rfl ?_
  refine walk ?_
  refine s_call rfl (tMake (p := q) (T := Tab.new g) okT (by omega)) rfl ?_
  rintro _ _ ⟨e_, rfl⟩
  obtain rfl := e_.symm
  refine walk ?_
  refine wp_loopF (α := Nat) [4, 40, 41, 42, 43, 44, 45, 46, 47, 48, 49, 50, 51] (fun k => [(40, .int .i64 k)])
    (fun k => blk bm (mcs (List.replicate k restM ++ List.replicate (m - k) zeroM)) 61 + (blk x [.int .i64 c.n, .int .i64 c.q, .int .i64 c.g, .int .i64 c.m, .int .i64 c.t, .int .i64 c.s, ptr q, ptr s, .slice (some ⟨bm, 0, none⟩) m m, .slice (some ⟨bp, 0, none⟩) n n, .int .i64 0] 56 + (blk bp (zs (List.replicate n 0)) 3 + (TabAt q (Tab.new g).make.2.2 + (SemAt s (newS 4 c.s) + (blk b (cv c) 23 + H)))))) (fun k => k ≤ m) (fun k => m - k) 0 agreed ?_ (Nat.zero_le _) ?_
  · simp only [List.replicate_zero, List.nil_append, Nat.sub_zero]
    exact Ent.auto
  intro k f2 hk
  simp only [putAll]
  by_cases hlt : k < m
  · have hlen : (List.replicate k restM ++ List.replicate (m - k) zeroM).length = m := by simp; omega
    have hml : (mcs (List.replicate k restM ++ List.replicate (m - k) zeroM)).length = m * 4 := by rw [mcs_len, hlen]
    refine walk ?_
    (refine s_build (cs := [.int .i64 0, .int .i64 (-1), .int .i64 (-1)]) ?_ rfl ?_; (· kernel_rfl))
    refine walk ?_
    refine s_storeA (vs := [.int .i64 0, .int .i64 (-1), .int .i64 (-1)]) (cs' := mcs (List.replicate (k + 1) restM ++ List.replicate (m - (k + 1)) zeroM)) rfl rfl rfl rfl ?_ ?_ ?_
    · simp only [List.length_cons, List.length_nil]; omega
    · have h3 := mcs_set3 (l := List.replicate k restM ++ List.replicate (m - k) zeroM) (k := k) (by omega) [] 0 (-1) (-1)
      rw [rep_mod hlt] at h3
      simp only [List.append_nil] at h3
      simp only [Nat.zero_add, Nat.add_zero]
      exact h3
    refine walk ?_
    exact ⟨k + 1, asided, agreed, Ent.auto, by omega, by omega⟩
  · have hkm : k = m := by omega
    subst hkm
    refine walk ?_
    refine wp_loopF (α := Nat) [5, 57, 58, 59, 60, 61, 62, 63, 64, 65, 66] (fun j => [(57, .int .i64 j)])
      (fun j => blk bp (zs (List.replicate j (-1) ++ List.replicate (n - j) 0)) 3 + (blk bm (mcs (List.replicate k restM ++ List.replicate (k - k) zeroM)) 61 + (blk x [.int .i64 c.n, .int .i64 c.q, .int .i64 c.g, .int .i64 c.m, .int .i64 c.t, .int .i64 c.s, ptr q, ptr s, .slice (some ⟨bm, 0, none⟩) k k, .slice (some ⟨bp, 0, none⟩) n n, .int .i64 0] 56 + (TabAt q (Tab.new g).make.2.2 + (SemAt s (newS 4 c.s) + (blk b (cv c) 23 + H)))))) (fun j => j ≤ n) (fun j => n - j) 0 agreed ?_ (Nat.zero_le _) ?_
    · simp only [List.replicate_zero, List.nil_append, Nat.sub_zero]
      exact Ent.auto
    intro j f3 hj
    simp only [putAll]
    by_cases hlt2 : j < n
    · have hlen : (zs (List.replicate j (-1) ++ List.replicate (n - j) 0)).length = n := by rw [zs_length]; simp; omega
      refine walk ?_
      refine s_store (v := .int .i64 (-1)) (cs' := zs (List.replicate (j + 1) (-1) ++ List.replicate (n - (j + 1)) 0)) rfl rfl rfl ?_ ?_ ?_
      · omega
      · rw [← rep_step hlt2]
        simp [zs, List.map_set]
      refine walk ?_
      exact ⟨j + 1, asided, agreed, Ent.auto, by omega, by omega⟩
    · have hjn : j = n := by omega
      subst hjn
      have em : c.m.toNat = k := by omega
      have en : c.n.toNat = j := by omega
      have eg : c.g.toNat = g := by omega
      refine WP.ent (show Ent _ (IdeAt x ⟨newI0 c, q, s, bm, k, [], bp, j, []⟩ + (blk b (cv c) 23 + H)) from ?_) ?_
      · rw [ide_open]
        simp only [ideC, newI0, em, en, eg, List.length_replicate, Nat.sub_self, List.replicate_zero, List.append_nil]
        exact Ent.auto
      have hm0 : 0 ≤ (0 : Int) ∧ (0 : Int) < ((newI0 c).ms.length : Int) := by
        show 0 ≤ (0 : Int) ∧ (0 : Int) < ((List.replicate c.m.toNat restM).length : Int)
        rw [List.length_replicate]; omega
      have hp0 : 0 ≤ (0 : Int) ∧ (0 : Int) < ((newI0 c).ps.length : Int) := by
        show 0 ≤ (0 : Int) ∧ (0 : Int) < ((List.replicate c.n.toNat (-1 : Int)).length : Int)
        rw [List.length_replicate]; omega
      refine walk ?_
      refine s_call rfl (iHas (x := x) (L := ⟨newI0 c, q, s, bm, k, [], bp, j, []⟩) (m := 0) (p := 0) (a := 1) (g := -1) hm0 hp0) rfl ?_
      rintro _ _ ⟨rfl, rfl⟩
      refine walk ?_
      exact QRet.ent (G := IdeAt x (IdL.put ⟨newI0 c, q, s, bm, k, [], bp, j, []⟩ ((newI0 c).has 0 0 1 (-1))) + H) Ent.auto (ret1 (v := ptr x) (.inr rfl) rfl rfl ⟨x, _, rfl, rfl, rfl⟩)
end
end Go.Proofs.Ytlhnmbajbhaaoaa
