/- The closed statement of spans. No condition. -/
import Derived.Test.YtkgddnelghkdnaaDoorSpLdx01
import Derived.Test.YtkgddnelghkdnaaDoorSL4
import Derived.Test.YtkgddnelghkdnaaDoorSpLaw01b
import Derived.Test.YtkgddnelghkdnaaDoorSpLaw01c
namespace Go.Proofs.YtkgddnelghkdnaaDoor
open Go Go.SL Go.SL.Flo
set_option linter.unusedSimpArgs false
set_option linter.unusedVariables false
set_option maxRecDepth 10000
set_option maxHeartbeats 8000000
def txts : List (List UInt8) := [[], [46], [48], [48, 46], [48, 46, 48, 48, 48, 48, 48, 48], [48, 48, 46, 48, 48, 48, 48, 48, 48], [48, 46, 48, 48, 48, 48, 48, 48, 48], [49, 46, 48, 48, 48, 48, 48], [45, 49, 46, 48, 48, 48, 48, 48, 48], [49, 46, 48, 48, 48, 48, 48, 49], [52, 54, 49, 49, 54, 56, 54, 48, 49, 56, 52, 50, 55, 46, 51, 56, 55, 57, 48, 52], [52, 54, 49, 49, 54, 56, 54, 48, 49, 56, 52, 50, 55, 46, 51, 56, 55, 57, 48, 53], [57, 57, 57, 57, 57, 57, 57, 57, 57, 57, 57, 57, 57, 57, 57, 57, 57, 57, 57, 57, 57, 57, 46, 48, 48, 48, 48, 48, 48], [49, 44, 48, 48, 48, 48, 48, 48], [32, 49, 46, 48, 48, 48, 48, 48, 48]]
theorem wrap64x (x : Int) : ∃ r, IntKind.i64.wrap x = r := ⟨_, rfl⟩
theorem wrapW (x : Int) : ∃ w : Nat, IntKind.u64.wrap x = (w : Int) ∧ w < 2 ^ 64 := ⟨(x % 18446744073709551616).toNat, by rw [wrapU64]; omega, by omega⟩
theorem wrapM (x : Int) : ∃ w : Nat, x % 18446744073709551616 = (w : Int) ∧ w < 2 ^ 64 := ⟨(x % 18446744073709551616).toNat, by omega, by omega⟩
theorem pow63 {i : Nat} (h : i < 63) : ∃ m : Int, IntKind.i64.wrap (1 * 2 ^ (min ((i : Nat) : Int).toNat IntKind.i64.bits)) = m ∧ 1 ≤ m ∧ m ≤ 4611686018427387904 := by
  have h1 : (2 : Nat) ^ i ≤ 2 ^ 62 := Nat.pow_le_pow_right (by omega) (by omega)
  have h2 : 0 < (2 : Nat) ^ i := Nat.two_pow_pos i
  have e : (1 : Int) * 2 ^ (min ((i : Nat) : Int).toNat IntKind.i64.bits) = ((2 ^ i : Nat) : Int) := by
    rw [Int.one_mul, show min ((i : Nat) : Int).toNat IntKind.i64.bits = i by simp only [IntKind.bits]; omega]
    simp
  refine ⟨((2 ^ i : Nat) : Int), ?_, by omega, by omega⟩
  rw [e]
  exact intI64 (by omega)
attribute [local irreducible] WP WPL QSeq QBlk QRet Does Cell Cells Rd Mine Ent Aside RV e0 QScp valU textS sumI clsV milQ fl
section
variable {B : World} {F H : HProp}
theorem known_law (T : Tab B) (L : LibOk B) : Does Tryd.prog B 7 [] H fun r H' => H' = H ∧ r = .bool true := by
  refine Does.frame0 ?_
  refine fn_intro 143 Tryd.func7 rfl rfl rfl ?_
  refine walk ?_
  refine wp_loopF (α := Int) [0, 1, 2, 3, 4, 10, 11, 12, 13, 14, 15, 16, 17, 18, 19, 20, 21, 22, 23, 24, 25, 26, 27, 28, 29, 30, 31, 32, 33, 34, 35, 36, 37, 38, 39, 40, 41, 42, 43, 44, 45, 46, 47, 48, 49, 50, 51, 52, 53, 54] (fun i => [(1, .int .i64 i)]) (fun _ => H) (fun i => -1074 ≤ i ∧ i ≤ 1024) (fun i => (1024 - i).toNat) (-1074) agreed (Ent.refl _) ⟨by omega, by omega⟩ ?_
  intro i f0 ⟨h0, h1⟩
  simp only [putAll]
  by_cases hi : i < 1024
  · refine walk ?_
    refine s_call rfl (LdexpW ⟨h0, hi⟩) rfl ?_
    rintro _ _ ⟨e_, a0, ha0, rfl⟩
    obtain rfl := e_.symm
    refine walk ?_
    refine s_fnegW rfl ha0 rfl ?_
    intro a1 ha1
    refine walk ?_
    refine s_call rfl (nextW (y := 0) ha0 (by decide)) rfl ?_
    rintro _ _ ⟨e_, a2, ha2, rfl⟩
    obtain rfl := e_.symm
    refine walk ?_
    refine s_call rfl (nextW (y := 9214871658872686752) ha0 (by decide)) rfl ?_
    rintro _ _ ⟨e_, a3, ha3, rfl⟩
    obtain rfl := e_.symm
    refine walk ?_
    refine s_fmulW rfl rfl rfl ?_
    intro a4 ha4
    refine walk ?_
    refine s_fquoW rfl rfl rfl ?_
    intro a5 ha5
    refine walk ?_
    obtain ⟨fl, hfl⟩ : ∃ fl : List Nat, fl = [a0, a1, a2, a3, a4, a5] := ⟨_, rfl⟩
    have hll : fl.length = 6 := by rw [hfl]; rfl
    have hfb : ∀ f ∈ fl, f < 2 ^ 64 := by
      intro f hf
      rw [hfl] at hf
      simp only [List.mem_cons, List.not_mem_nil, or_false] at hf
      omega
    refine s_buildInts (cs := fl.map flt) (by rw [hfl]; rfl) rfl (by rw [hfl]; rfl) rfl rfl ?_
    intro bf
    have hcell : ∀ j (h : j < 6), Cell B (blk bf (fl.map flt) 22) bf j (flt (fl[j]'(by omega))) := fun j h => by
      rw [← HProp.add_emp (blk bf (fl.map flt) 22)]
      exact Cell.blk (by rw [List.getElem?_map, List.getElem?_eq_getElem (by omega)]; rfl)
    have hmem : ∀ j (h : j < 6), fl[j]'(by omega) < 2 ^ 64 := fun j h => hfb _ (List.getElem_mem _)
    clear hfl hfb
    obtain ⟨u, hu, hul⟩ := wrapW i
    obtain ⟨s, hs⟩ := wrap64x (i * 2 ^ (min (i % 32).toNat IntKind.i64.bits))
    refine walk ?_
    refine wp_loopF (α := Nat) [0, 4, 28, 29, 30, 31, 32, 33, 34, 35, 36, 37, 38, 39, 40, 41, 42, 43, 44, 45, 46, 47, 48, 49, 50, 51, 52, 53, 54] (fun k => [(4, .int .i64 k)]) (fun _ => blk bf (fl.map flt) 22 + H) (fun k => k ≤ 6) (fun k => 6 - k) 0 agreed (Ent.refl _) (by omega) ?_
    intro k f1 hk
    simp only [putAll]
    by_cases hk6 : k < 6
    · obtain ⟨v, hv⟩ : ∃ x, fl[k]'(by omega) = x := ⟨_, rfl⟩
      have qv := hcell k hk6
      have mv := hmem k hk6
      rw [hv] at qv mv
      clear hv
      refine walk ?_
      (refine wp_draw [4, 18] (.look 0 (.look 1 (.look 2 (.look 3 (.act 4 (.look 5 (.look 6 (.look 7 (.look 8 (.look 9 (.look 10 (.look 11 (.look 12 (.look 13 (.look 14 (.look 15 (.look 16 (.look 17 (.act 18 (.look 19 (.look 20 .nil)) .stop)))))))))))))) .stop))))) (by kernel_rfl) ?_; (apply dw_pure; (· exact rfl); (· exact rfl); (· (intro G; exact looked))); (apply dw_pure; (· exact rfl); (· exact rfl); (· (intro G; exact looked))); (apply dw_pure; (· exact rfl); (· exact rfl); (· (intro G; (apply s_indexAddr (j := k) (o' := k); (· exact rfl); (· exact rfl); (· omega); (· omega); (· omega); (· exact rfl)); exact looked))); (apply dw_look; (· exact rfl); (· exact rfl); (· (exact looked))); skip)
      refine dw_do rfl rfl ?_ dw_stop
      refine s_call rfl (nanos_law T L mv) rfl ?_
      rintro _ _ ⟨e_, rfl⟩
      obtain rfl := e_.symm
      refine wpl_nil (qone ⟨(by refine st_past (by kernel_rfl) ?_; exact st_nil), ?_⟩)
      ((apply dw_pure; (· exact rfl); (· exact rfl); (· (intro G; exact looked))); (apply dw_pure; (· exact rfl); (· exact rfl); (· (intro G; exact looked))); (apply dw_pure; (· exact rfl); (· exact rfl); (· (intro G; exact looked))); (apply dw_pure; (· exact rfl); (· exact rfl); (· (intro G; exact looked))); (apply dw_pure; (· exact rfl); (· exact rfl); (· (intro G; (first | (refine step_wanted rfl rfl ?_; (apply s_indexAddr (j := k) (o' := k); (· exact rfl); (· exact rfl); (· omega); (· omega); (· omega); (· exact rfl))) | skip); exact looked))); (apply dw_look; (· exact rfl); (· exact rfl); (· (exact looked))); (apply dw_pure; (· exact rfl); (· exact rfl); (· (intro G; exact looked))); (apply dw_pure; (· exact rfl); (· exact rfl); (· (intro G; exact looked))); (apply dw_pure; (· exact rfl); (· exact rfl); (· (intro G; (first | (refine step_wanted rfl rfl ?_; refine s_conv rfl hu rfl ?_) | skip); exact looked))); (apply dw_pure; (· exact rfl); (· exact rfl); (· (intro G; exact looked))); (apply dw_pure; (· exact rfl); (· exact rfl); (· (intro G; exact looked))); (apply dw_pure; (· exact rfl); (· exact rfl); (· (intro G; (first | (refine step_wanted rfl rfl ?_; refine s_and31 rfl rfl rfl ?_) | skip); exact looked))); (apply dw_pure; (· exact rfl); (· exact rfl); (· (intro G; (first | (refine step_wanted rfl rfl ?_; refine s_shl rfl rfl (by omega) hs rfl ?_) | skip); exact looked))); skip)
      refine dw_do rfl rfl ?_ dw_stop
      refine step_wanted rfl rfl ?_
      refine s_call rfl (rises_law T L mv ha0 hul) rfl ?_
      rintro _ _ ⟨e_, rfl⟩
      obtain rfl := e_.symm
      refine wpl_nil (qone ⟨(by refine st_past (by kernel_rfl) ?_; refine st_past (by kernel_rfl) ?_; exact st_nil), ?_⟩)
      ((apply dw_pure; (· exact rfl); (· exact rfl); (· (intro G; exact looked))); (apply dw_pure; (· exact rfl); (· exact rfl); (· (intro G; exact looked))); refine dw_nil ?_; skip)
      refine walk ?_
      exact ⟨k + 1, asided, agreed, Ent.refl _, by omega, by omega⟩
    · refine walk ?_
      exact ⟨i + 1, asided, agreed, Ent.auto, ⟨by omega, by omega⟩, by omega⟩
  · refine walk ?_
    refine wp_loopF (α := Nat) [0, 5, 6, 7, 55, 56, 57, 58, 59, 60, 61, 62, 63, 64, 65, 66, 67, 68, 69, 70, 71, 72, 73, 74, 75, 76, 77, 78, 79, 80, 81, 82, 83, 84, 85, 86, 87, 88, 89, 90, 91, 92, 93, 94, 95, 96, 97, 98, 99, 100, 101, 102] (fun i => [(5, .int .i64 i)]) (fun _ => H) (fun i => i ≤ 63) (fun i => 63 - i) 0 agreed (Ent.refl _) (by omega) ?_
    intro i f0 hi
    simp only [putAll]
    by_cases hi63 : i < 63
    · obtain ⟨m, hm, hm1, hm2⟩ := pow63 hi63
      refine walk ?_
      refine s_shl rfl rfl (by omega) hm rfl ?_
      refine walk ?_
      refine wp_loopF (α := Int) [0, 7, 61, 62, 63, 64, 65, 66, 67, 68, 69, 70, 71, 72, 73, 74, 75, 76, 77, 78, 79, 80, 81, 82, 83, 84, 85, 86, 87, 88, 89, 90, 91, 92, 93, 94, 95, 96, 97, 98, 99, 100, 101, 102] (fun k => [(7, .int .i64 k)]) (fun _ => H) (fun k => -2 ≤ k ∧ k ≤ 3) (fun k => (3 - k).toNat) (-2) agreed (Ent.refl _) ⟨by omega, by omega⟩ ?_
      intro k f1 ⟨hk0, hk1⟩
      simp only [putAll]
      by_cases hk3 : k < 3
      · obtain ⟨u, hu, hul⟩ := wrapM (m + k)
        refine walk ?_
        refine s_ineg (r := -m) rfl (by rw [intI64 (by omega)]; omega) rfl ?_
        refine walk ?_
        refine s_buildInts (cs := zs [m + k, m, -m]) rfl rfl rfl rfl rfl ?_
        intro b3
        refine walk ?_
        refine s_call rfl (sums_law (l := [m + k, m, -m]) T L (Rd.blk0 (e := 2) rfl (by simp [maxLen]))) rfl ?_
        rintro _ _ ⟨e_, rfl⟩
        obtain rfl := e_.symm
        refine walk ?_
        refine s_call rfl (rTextP (n := m)) rfl ?_
        rintro _ _ ⟨e_, rfl⟩
        obtain rfl := e_.symm
        refine walk ?_
        refine s_call rfl (texts_law (n := m + k) (s := textS m) T L) rfl ?_
        rintro _ _ ⟨e_, rfl⟩
        obtain rfl := e_.symm
        refine walk ?_
        refine s_itofW rfl rfl ?_
        intro a ha
        refine walk ?_
        refine s_itofW rfl rfl ?_
        intro b hb
        refine walk ?_
        rw [hu]
        refine s_call rfl (rises_law T L ha hb hul) rfl ?_
        rintro _ _ ⟨e_, rfl⟩
        obtain rfl := e_.symm
        refine walk ?_
        exact ⟨k + 1, asided, agreed, Ent.auto, ⟨by omega, by omega⟩, by omega⟩
      · refine walk ?_
        exact ⟨i + 1, asided, agreed, Ent.refl _, by omega, by omega⟩
    · refine walk ?_
      refine s_buildInts (cs := ss txts) rfl rfl rfl rfl rfl ?_
      intro bt
      refine walk ?_
      refine wp_loopF (α := Nat) [0, 9, 104, 105, 106, 107, 108, 109, 110, 111, 112, 113, 114, 115, 116] (fun i => [(9, .int .i64 i)]) (fun _ => blk bt (ss txts) 9 + H) (fun i => i ≤ 15) (fun i => 15 - i) 0 agreed (Ent.refl _) (by omega) ?_
      intro i f1 hi
      simp only [putAll]
      by_cases hi15 : i < 15
      · obtain ⟨x, hx⟩ : ∃ x, txts[i]'(by exact hi15) = x := ⟨_, rfl⟩
        have qx : Cell B (blk bt (ss txts) 9) bt i (str x) := by
          rw [← HProp.add_emp (blk bt (ss txts) 9)]
          exact Cell.blk (by rw [ss_get _ _ (by exact hi15), hx])
        refine walk ?_
        refine s_call rfl (texts_law (n := (i : Int)) (s := x) T L) rfl ?_
        rintro _ _ ⟨e_, rfl⟩
        obtain rfl := e_.symm
        refine walk ?_
        exact ⟨i + 1, asided, agreed, Ent.refl _, by omega, by omega⟩
      · refine walk ?_
        refine s_call rfl (nan_spec) rfl ?_
        rintro _ _ ⟨e_, rfl⟩
        obtain rfl := e_.symm
        refine walk ?_
        refine s_call rfl (nanos_law (w := 9221120237041090561) T L (by decide)) rfl ?_
        rintro _ _ ⟨e_, rfl⟩
        obtain rfl := e_.symm
        refine walk ?_
        refine s_call rfl (inf_spec) rfl ?_
        rintro _ _ ⟨e_, rfl⟩
        obtain rfl := e_.symm
        refine walk ?_
        refine s_call rfl (nanos_law (w := 9218868437227405312) T L (by decide)) rfl ?_
        rintro _ _ ⟨e_, rfl⟩
        obtain rfl := e_.symm
        refine walk ?_
        refine s_call rfl (infN_spec) rfl ?_
        rintro _ _ ⟨e_, rfl⟩
        obtain rfl := e_.symm
        refine walk ?_
        refine s_call rfl (nanos_law (w := 18442240474082181120) T L (by decide)) rfl ?_
        rintro _ _ ⟨e_, rfl⟩
        obtain rfl := e_.symm
        refine walk ?_
        refine s_call rfl (copysign_spec) rfl ?_
        rintro _ _ ⟨e_, rfl⟩
        obtain rfl := e_.symm
        refine walk ?_
        refine s_call rfl (nanos_law (w := 9223372036854775808) T L (by decide)) rfl ?_
        rintro _ _ ⟨e_, rfl⟩
        obtain rfl := e_.symm
        refine walk ?_
        refine s_call rfl (nanos_law (w := 4796552370005077388) T L (by decide)) rfl ?_
        rintro _ _ ⟨e_, rfl⟩
        obtain rfl := e_.symm
        refine walk ?_
        refine s_call rfl (nanos_law (w := 4796552370005078016) T L (by decide)) rfl ?_
        rintro _ _ ⟨e_, rfl⟩
        obtain rfl := e_.symm
        refine walk ?_
        refine s_call rfl (sums_law (l := []) (s := .slice none 0 0) T L Rd.nil) rfl ?_
        rintro _ _ ⟨e_, rfl⟩
        obtain rfl := e_.symm
        refine walk ?_
        refine s_call rfl (works_spec T L) rfl ?_
        rintro _ _ ⟨e_, rfl⟩
        obtain rfl := e_.symm
        refine walk ?_
        (first | (apply retRD1 (G := H) (.inr rfl) rfl; (· first | (refine rv_tmp (v := .bool _) rfl) | exact rv_tmp rfl); (· exact Ent.auto)) | (apply retRD1 (G := H) (.inl rfl) rfl; (· first | (refine rv_tmp (v := .bool _) rfl) | exact rv_tmp rfl); (· exact Ent.auto)))
        exact ⟨Ent.auto, rfl⟩
end
end Go.Proofs.YtkgddnelghkdnaaDoor
