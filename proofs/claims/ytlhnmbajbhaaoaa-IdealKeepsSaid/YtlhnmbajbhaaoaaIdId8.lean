/- Any note: whether it may be, and what it does. No condition. -/
import Derived.Test.YtlhnmbajbhaaoaaIdIdOk
namespace Go.Proofs.Ytlhnmbajbhaaoaa
open Go Go.SL
set_option linter.unusedSimpArgs false
set_option linter.unusedVariables false
set_option maxRecDepth 10000
set_option maxHeartbeats 2000000
theorem kind_at {c : Cfg} {k : Nat} (h : 1 ≤ k ∧ k ≤ 16) : ((kindsC c).drop (k * 4)).take 4 = [str (fK (k : Int)), .int .i64 (xK c (k : Int)), .func (.func (mayF k)) #[] #[], .func (.func (doF k)) #[] #[]] := by
  have h' : k = 1 ∨ k = 2 ∨ k = 3 ∨ k = 4 ∨ k = 5 ∨ k = 6 ∨ k = 7 ∨ k = 8 ∨ k = 9 ∨ k = 10 ∨ k = 11 ∨ k = 12 ∨ k = 13 ∨ k = 14 ∨ k = 15 ∨ k = 16 := by omega
  rcases h' with rfl | rfl | rfl | rfl | rfl | rfl | rfl | rfl | rfl | rfl | rfl | rfl | rfl | rfl | rfl | rfl <;> rfl
theorem fK_len (k : Int) : (fK k).length ≤ 4 := by
  unfold fK
  (repeat' split) <;> simp
theorem may_call {k : Nat} (h : 1 ≤ k ∧ k ≤ 16) : Callable Try.prog (mayF k) := by
  have h' : k = 1 ∨ k = 2 ∨ k = 3 ∨ k = 4 ∨ k = 5 ∨ k = 6 ∨ k = 7 ∨ k = 8 ∨ k = 9 ∨ k = 10 ∨ k = 11 ∨ k = 12 ∨ k = 13 ∨ k = 14 ∨ k = 15 ∨ k = 16 := by omega
  rcases h' with rfl | rfl | rfl | rfl | rfl | rfl | rfl | rfl | rfl | rfl | rfl | rfl | rfl | rfl | rfl | rfl <;> exact Callable.of (by kernel_rfl)
theorem do_call {k : Nat} (h : 1 ≤ k ∧ k ≤ 16) : Callable Try.prog (doF k) := by
  have h' : k = 1 ∨ k = 2 ∨ k = 3 ∨ k = 4 ∨ k = 5 ∨ k = 6 ∨ k = 7 ∨ k = 8 ∨ k = 9 ∨ k = 10 ∨ k = 11 ∨ k = 12 ∨ k = 13 ∨ k = 14 ∨ k = 15 ∨ k = 16 := by omega
  rcases h' with rfl | rfl | rfl | rfl | rfl | rfl | rfl | rfl | rfl | rfl | rfl | rfl | rfl | rfl | rfl | rfl <;> exact Callable.of (by kernel_rfl)
attribute [local irreducible] WP WPL QSeq QBlk QRet Does Cell Cells Rd Mine Ent Aside RV Yield TabAt SemAt IdeAt
section
variable {B : World} {H F G : HProp} {x : Nat} {L : IdL} {n : Nt} {K : Int}
theorem pAt_lt (ok : L.I.ok K) {p : Int} (hp : 0 ≤ p ∧ p < L.I.c.n) : L.I.pAt p < L.I.ms.length := by
  have hpl := ok.pl
  have hml := ok.ml
  obtain ⟨k, hk, _, e⟩ := pAt_of (L := L) (p := p) (by omega)
  rw [e]
  have := ok.pm _ (List.getElem_mem hk)
  omega
theorem may_any [i : HasAt IdeAt H x L F] (ok : L.I.ok K) (hK : K ≤ 100000) (hr : rightB L.I.c n = true) {k : Nat} (hn : n.kind = (k : Int)) (hk : 1 ≤ k ∧ k ≤ 16) : Does Try.prog B (mayF k) [ptr x, noteV n] H fun r H' => H' = H ∧ r = .bool (mayK L.I n) := by
  obtain ⟨hg, hp, hm, hx⟩ := right_of hr
  have hpl := ok.pl
  have hml := ok.ml
  have hlk : LOk L.I.sem := rowS_all ok.sk hK
  have hc := ok.c
  obtain ⟨_, c1, c2, _, _, c3, c4, _⟩ := hc
  have hv : 0 ≤ n.p ∧ n.p < L.I.c.n → L.I.pAt n.p < L.I.ms.length := fun h => pAt_lt ok h
  obtain ⟨kind, g, p, m, x⟩ := n
  simp only at hg hp hm hx hn hv
  subst hn
  have h' : k = 1 ∨ k = 2 ∨ k = 3 ∨ k = 4 ∨ k = 5 ∨ k = 6 ∨ k = 7 ∨ k = 8 ∨ k = 9 ∨ k = 10 ∨ k = 11 ∨ k = 12 ∨ k = 13 ∨ k = 14 ∨ k = 15 ∨ k = 16 := by omega
  rcases h' with rfl | rfl | rfl | rfl | rfl | rfl | rfl | rfl | rfl | rfl | rfl | rfl | rfl | rfl | rfl | rfl
  · have hm : 0 ≤ m ∧ m < (L.I.ms.length : Int) := by have := hm (by decide); omega
    exact k2 hm ok.tab hK
  · have hm : 0 ≤ m ∧ m < (L.I.ms.length : Int) := by have := hm (by decide); omega
    exact k4 hm
  · have hm : 0 ≤ m ∧ m < (L.I.ms.length : Int) := by have := hm (by decide); omega
    exact iRuns hm
  · have hm : 0 ≤ m ∧ m < (L.I.ms.length : Int) := by have := hm (by decide); omega
    exact iRuns hm
  · have hm : 0 ≤ m ∧ m < (L.I.ms.length : Int) := by have := hm (by decide); omega
    exact k6 hm
  · have hm : 0 ≤ m ∧ m < (L.I.ms.length : Int) := by have := hm (by decide); omega
    exact k8 hm
  · have hm : 0 ≤ m ∧ m < (L.I.ms.length : Int) := by have := hm (by decide); omega
    exact k10 hm hlk
  · have hm : 0 ≤ m ∧ m < (L.I.ms.length : Int) := by have := hm (by decide); omega
    exact k12 hm hlk
  · have hm : 0 ≤ m ∧ m < (L.I.ms.length : Int) := by have := hm (by decide); omega
    exact iRuns hm
  · have hm : 0 ≤ m ∧ m < (L.I.ms.length : Int) := by have := hm (by decide); omega
    exact k15 hm (by omega) (by omega)
  · have hm : 0 ≤ m ∧ m < (L.I.ms.length : Int) := by have := hm (by decide); omega
    have hq := hp (by decide)
    have hp : 0 ≤ p ∧ p < (L.I.ps.length : Int) := by omega
    exact kBack hm hp (hv hq)
  · have hm : 0 ≤ m ∧ m < (L.I.ms.length : Int) := by have := hm (by decide); omega
    exact k17 hm
  · have hm : 0 ≤ m ∧ m < (L.I.ms.length : Int) := by have := hm (by decide); omega
    have hq := hp (by decide)
    have hp : 0 ≤ p ∧ p < (L.I.ps.length : Int) := by omega
    exact k19 hm hp (hx (by decide))
  · have hm : 0 ≤ m ∧ m < (L.I.ms.length : Int) := by have := hm (by decide); omega
    exact iSearches hm
  · have hq := hp (by decide)
    have hp : 0 ≤ p ∧ p < (L.I.ps.length : Int) := by omega
    exact k22 hp (hv hq)
  · exact k24
theorem do_any [i : HasAt IdeAt H x L F] (ok : L.I.ok K) (hK : K ≤ 100000) (hr : rightB L.I.c n = true) (hy : mayK L.I n = true) {k : Nat} (hn : n.kind = (k : Int)) (hk : 1 ≤ k ∧ k ≤ 16) : Does Try.prog B (doF k) [ptr x, noteV n] H fun r H' => H' = IdeAt x (L.put (doK L.I n)) + F ∧ r = .tuple #[] := by
  obtain ⟨hg, hp, hm, hx⟩ := right_of hr
  have hpl := ok.pl
  have hml := ok.ml
  have hv : 0 ≤ n.p ∧ n.p < L.I.c.n → L.I.pAt n.p < L.I.ms.length := fun h => pAt_lt ok h
  obtain ⟨kind, g, p, m, x⟩ := n
  simp only at hg hp hm hx hn hv
  subst hn
  have h' : k = 1 ∨ k = 2 ∨ k = 3 ∨ k = 4 ∨ k = 5 ∨ k = 6 ∨ k = 7 ∨ k = 8 ∨ k = 9 ∨ k = 10 ∨ k = 11 ∨ k = 12 ∨ k = 13 ∨ k = 14 ∨ k = 15 ∨ k = 16 := by omega
  rcases h' with rfl | rfl | rfl | rfl | rfl | rfl | rfl | rfl | rfl | rfl | rfl | rfl | rfl | rfl | rfl | rfl
  · exact d3 ok.tab hK
  · have hm : 0 ≤ m ∧ m < (L.I.ms.length : Int) := by have := hm (by decide); omega
    have hq := hp (by decide)
    have hp : 0 ≤ p ∧ p < (L.I.ps.length : Int) := by omega
    exact d5 hm hp ok.tab hK
  · have hm : 0 ≤ m ∧ m < (L.I.ms.length : Int) := by have := hm (by decide); omega
    have hq := hp (by decide)
    have hp : 0 ≤ p ∧ p < (L.I.ps.length : Int) := by omega
    exact d1 hm hp ok.tab hK
  · have hm : 0 ≤ m ∧ m < (L.I.ms.length : Int) := by have := hm (by decide); omega
    have hq := hp (by decide)
    have hp : 0 ≤ p ∧ p < (L.I.ps.length : Int) := by omega
    exact d1 hm hp ok.tab hK
  · exact d7
  · have hm : 0 ≤ m ∧ m < (L.I.ms.length : Int) := by have := hm (by decide); omega
    have hq := hp (by decide)
    have hp : 0 ≤ p ∧ p < (L.I.ps.length : Int) := by omega
    exact d9 hm hp ok.tab hK
  · exact d11
  · exact d13 ok.tab hK
  · have hm : 0 ≤ m ∧ m < (L.I.ms.length : Int) := by have := hm (by decide); omega
    have hq := hp (by decide)
    have hp : 0 ≤ p ∧ p < (L.I.ps.length : Int) := by omega
    exact d14 hm hp ok.tab hK
  · have hm : 0 ≤ m ∧ m < (L.I.ms.length : Int) := by have := hm (by decide); omega
    have hq := hp (by decide)
    have hp : 0 ≤ p ∧ p < (L.I.ps.length : Int) := by omega
    exact d16 hm hp ok.tab hK
  · have hm : 0 ≤ m ∧ m < (L.I.ms.length : Int) := by have := hm (by decide); omega
    have hq := hp (by decide)
    have hp : 0 ≤ p ∧ p < (L.I.ps.length : Int) := by omega
    refine dComes hm hp ok.tab hK fun h1 => ⟨?_, hv hq⟩
    have h1 : x = 1 := h1
    subst h1
    have e : mayK L.I ⟨((11 : Nat) : Int), g, p, m, 1⟩ = (callsB L.I ⟨((11 : Nat) : Int), g, p, m, 1⟩ && (decide ((L.I.mAt m).b = p) && L.I.kept p)) := rfl
    rw [e] at hy
    simp only [Bool.and_eq_true, Ide.kept, decide_eq_true_eq] at hy
    exact hy.2.2.1
  · have hm : 0 ≤ m ∧ m < (L.I.ms.length : Int) := by have := hm (by decide); omega
    exact d18 hm ok.tab hK
  · have hm : 0 ≤ m ∧ m < (L.I.ms.length : Int) := by have := hm (by decide); omega
    have hq := hp (by decide)
    have hp : 0 ≤ p ∧ p < (L.I.ps.length : Int) := by omega
    exact d20 hm hp
  · have hm : 0 ≤ m ∧ m < (L.I.ms.length : Int) := by have := hm (by decide); omega
    have hq := hp (by decide)
    have hp : 0 ≤ p ∧ p < (L.I.ps.length : Int) := by omega
    exact d21 hm hp
  · have hq := hp (by decide)
    have hp : 0 ≤ p ∧ p < (L.I.ps.length : Int) := by omega
    refine d23 hp ⟨?_, hv hq⟩
    have e : mayK L.I ⟨((15 : Nat) : Int), g, p, m, x⟩ = L.I.kept p := rfl
    rw [e] at hy
    simp only [Bool.and_eq_true, Ide.kept, decide_eq_true_eq] at hy
    exact hy.1
  · exact d25
theorem iMay [i : HasAt IdeAt H x L F] (ok : L.I.ok K) (hK : K ≤ 100000) : Does Try.prog B 13 [ptr x, noteV n] H fun r H' => H' = H ∧ r = .bool (mayB L.I n) := by
  rw [i.eq]
  refine Does.frame0 ?_
  unfold mayB
  by_cases h1 : 1 ≤ n.kind
  · by_cases h2 : n.kind ≤ 16
    · obtain ⟨k, hk⟩ := Int.eq_ofNat_of_zero_le (show 0 ≤ n.kind by omega)
      have hk1 : 1 ≤ k ∧ k ≤ 16 := by omega
      have hka := kind_at (c := L.I.c) hk1
      rw [← hk] at hka
      rw [decide_eq_true (show 1 ≤ n.kind ∧ n.kind ≤ 16 from ⟨h1, h2⟩), Bool.true_and]
      haveI := may_call hk1
      refine fn_intro 34 Try.func13 rfl rfl rfl ?_
      refine walk ?_
      refine s_box (cs := nv n) rfl rfl rfl ?_
      intro b
      refine walk ?_
      (refine wp_draw [1, 5, 6] (.look 0 (.look 2 (.look 3 (.act 1 (.look 4 (.act 5 (.act 6 .nil .stop) .stop)) (.act 5 (.act 1 (.look 4 (.act 6 .nil .stop)) .stop) .stop))))) (by kernel_rfl) ?_; (apply dw_pure; (· exact rfl); (· exact rfl); (· (intro G; exact looked))); (apply dw_pure; (· exact rfl); (· exact rfl); (· (intro G; exact looked))); (apply dw_look; (· exact rfl); (· exact rfl); (· (exact looked))); skip)
      refine dw_do rfl rfl ?_ (dw_do rfl rfl ?_ dw_stop)
      · skip
        refine s_call rfl (iKinds (L := L) (x := x)) rfl ?_
        rintro _ _ ⟨e_, rfl⟩
        obtain rfl := e_.symm
        refine wpl_nil (qone ⟨(by (refine st_again ?_ ?_; (· exact looked)); exact st_nil), ?_⟩)
        ((apply dw_pure; (· exact rfl); (· exact rfl); (· (intro G; refine s_indexVA (j := k) (cs := kindsC L.I.c) (vs := [str (fK n.kind), .int .i64 (xK L.I.c n.kind), .func (.func (mayF k)) #[] #[], .func (.func (doF k)) #[] #[]]) rfl rfl hk (by omega) hka rfl ?_; exact looked))); skip)
        refine dw_do rfl rfl ?_ dw_stop
        refine s_alloc rfl ?_
        intro b5
        refine wpl_nil (qone ⟨(by (refine st_again ?_ ?_; (· exact looked)); exact st_nil), ?_⟩)
        (skip)
        refine dw_do0 rfl rfl ?_ dw_stop
        refine s_storeV (vs := [str (fK n.kind), .int .i64 (xK L.I.c n.kind), .func (.func (mayF k)) #[] #[], .func (.func (doF k)) #[] #[]]) rfl rfl rfl rfl rfl ?_
        refine wpl_nil (qone0 ⟨(by refine st_past (by kernel_rfl) ?_; exact st_nil), ?_⟩)
        (refine dw_nil ?_; skip)
        refine walk ?_
        refine s_call rfl (iRight (x := x) (L := L) (n := n) (f := fK n.kind) (xk := xK L.I.c n.kind) (fK_len _)) rfl ?_
        rintro _ _ ⟨e_, rfl⟩
        obtain rfl := e_.symm
        rw [show rightAt L.I.c (fK n.kind) (xK L.I.c n.kind) n 0 = rightB L.I.c n from rfl]
        cases hr : rightB L.I.c n with
        | false =>
          refine walk ?_
          (first | (apply retRD1 (G := (IdeAt x L + F)) (.inr rfl) rfl; (· first | (refine rv_tmp (v := .bool _) rfl) | exact rv_tmp rfl); (· exact Ent.auto)) | (apply retRD1 (G := (IdeAt x L + F)) (.inl rfl) rfl; (· first | (refine rv_tmp (v := .bool _) rfl) | exact rv_tmp rfl); (· exact Ent.auto)))
          exact ⟨Ent.refl _, by rw [Bool.false_and]⟩
        | true =>
          refine walk ?_
          (first | refine step_wanted rfl rfl ?_ | skip)
          refine s_callV (f := mayF k) (first := []) (cap := []) (vs := [ptr x, noteV n]) rfl rfl (may_any (x := x) (L := L) (n := n) ok hK hr hk hk1) rfl ?_
          rintro _ _ ⟨e_, rfl⟩
          obtain rfl := e_.symm
          refine walk ?_
          (first | (apply retRD1 (G := (IdeAt x L + F)) (.inr rfl) rfl; (· first | (refine rv_tmp (v := .bool _) rfl) | exact rv_tmp rfl); (· exact Ent.auto)) | (apply retRD1 (G := (IdeAt x L + F)) (.inl rfl) rfl; (· first | (refine rv_tmp (v := .bool _) rfl) | exact rv_tmp rfl); (· exact Ent.auto)))
          exact ⟨Ent.refl _, by rw [Bool.true_and]⟩
      · skip
        refine s_alloc rfl ?_
        intro b5
        refine wpl_nil (qone ⟨(by (refine st_again ?_ ?_; (· exact looked)); exact st_nil), ?_⟩)
        (skip)
        refine dw_do rfl rfl ?_ dw_stop
        refine s_call rfl (iKinds (L := L) (x := x)) rfl ?_
        rintro _ _ ⟨e_, rfl⟩
        obtain rfl := e_.symm
        refine wpl_nil (qone ⟨(by (refine st_again ?_ ?_; (· exact looked)); exact st_nil), ?_⟩)
        ((apply dw_pure; (· exact rfl); (· exact rfl); (· (intro G; refine s_indexVA (j := k) (cs := kindsC L.I.c) (vs := [str (fK n.kind), .int .i64 (xK L.I.c n.kind), .func (.func (mayF k)) #[] #[], .func (.func (doF k)) #[] #[]]) rfl rfl hk (by omega) hka rfl ?_; exact looked))); skip)
        refine dw_do0 rfl rfl ?_ dw_stop
        refine s_storeV (vs := [str (fK n.kind), .int .i64 (xK L.I.c n.kind), .func (.func (mayF k)) #[] #[], .func (.func (doF k)) #[] #[]]) rfl rfl rfl rfl rfl ?_
        refine wpl_nil (qone0 ⟨(by refine st_past (by kernel_rfl) ?_; exact st_nil), ?_⟩)
        (refine dw_nil ?_; skip)
        refine walk ?_
        refine s_call rfl (iRight (x := x) (L := L) (n := n) (f := fK n.kind) (xk := xK L.I.c n.kind) (fK_len _)) rfl ?_
        rintro _ _ ⟨e_, rfl⟩
        obtain rfl := e_.symm
        rw [show rightAt L.I.c (fK n.kind) (xK L.I.c n.kind) n 0 = rightB L.I.c n from rfl]
        cases hr : rightB L.I.c n with
        | false =>
          refine walk ?_
          (first | (apply retRD1 (G := (IdeAt x L + F)) (.inr rfl) rfl; (· first | (refine rv_tmp (v := .bool _) rfl) | exact rv_tmp rfl); (· exact Ent.auto)) | (apply retRD1 (G := (IdeAt x L + F)) (.inl rfl) rfl; (· first | (refine rv_tmp (v := .bool _) rfl) | exact rv_tmp rfl); (· exact Ent.auto)))
          exact ⟨Ent.refl _, by rw [Bool.false_and]⟩
        | true =>
          refine walk ?_
          (first | refine step_wanted rfl rfl ?_ | skip)
          refine s_callV (f := mayF k) (first := []) (cap := []) (vs := [ptr x, noteV n]) rfl rfl (may_any (x := x) (L := L) (n := n) ok hK hr hk hk1) rfl ?_
          rintro _ _ ⟨e_, rfl⟩
          obtain rfl := e_.symm
          refine walk ?_
          (first | (apply retRD1 (G := (IdeAt x L + F)) (.inr rfl) rfl; (· first | (refine rv_tmp (v := .bool _) rfl) | exact rv_tmp rfl); (· exact Ent.auto)) | (apply retRD1 (G := (IdeAt x L + F)) (.inl rfl) rfl; (· first | (refine rv_tmp (v := .bool _) rfl) | exact rv_tmp rfl); (· exact Ent.auto)))
          exact ⟨Ent.refl _, by rw [Bool.true_and]⟩
    · rw [decide_eq_false (show ¬ (1 ≤ n.kind ∧ n.kind ≤ 16) from fun h => h2 h.2), Bool.false_and]
      refine fn_intro 34 Try.func13 rfl rfl rfl ?_
      refine walk ?_
      refine s_box (cs := nv n) rfl rfl rfl ?_
      intro b
      refine walk ?_
      (first | (apply retRD1 (G := (IdeAt x L + F)) (.inr rfl) rfl; (· first | (refine rv_tmp (v := .bool _) rfl) | exact rv_tmp rfl); (· exact Ent.auto)) | (apply retRD1 (G := (IdeAt x L + F)) (.inl rfl) rfl; (· first | (refine rv_tmp (v := .bool _) rfl) | exact rv_tmp rfl); (· exact Ent.auto)))
      exact ⟨Ent.refl _, rfl⟩
  · rw [decide_eq_false (show ¬ (1 ≤ n.kind ∧ n.kind ≤ 16) from fun h => h1 h.1), Bool.false_and]
    refine fn_intro 34 Try.func13 rfl rfl rfl ?_
    refine walk ?_
    refine s_box (cs := nv n) rfl rfl rfl ?_
    intro b
    refine walk ?_
    (first | (apply retRD1 (G := (IdeAt x L + F)) (.inr rfl) rfl; (· first | (refine rv_tmp (v := .bool _) rfl) | exact rv_tmp rfl); (· exact Ent.auto)) | (apply retRD1 (G := (IdeAt x L + F)) (.inl rfl) rfl; (· first | (refine rv_tmp (v := .bool _) rfl) | exact rv_tmp rfl); (· exact Ent.auto)))
    exact ⟨Ent.refl _, rfl⟩
end
end Go.Proofs.Ytlhnmbajbhaaoaa
