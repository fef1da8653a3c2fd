/- The closed statement: deques by numbers. No condition. -/
import Derived.Test.YtcnpcmdcbafaeaaDNil
import Derived.Test.YtcnpcmdcbafaeaaSLKeep
namespace Go.Proofs.Ytcnpcmdcbafaeaa
open Go Go.SL
set_option linter.unusedSimpArgs false
set_option linter.unusedVariables false
set_option maxRecDepth 10000
set_option maxHeartbeats 4000000
theorem qCells_push (l : List QAct) (a : QAct) : qCells (l ++ [a]) = qCells l ++ a.cells := by simp [qCells]
/-- What turns in the loop that makes rows. -/
structure KSt where
  i : Nat
  k : Int
  R : List Int
  N : List Int
  acts : List QAct
  vr : Value
  vm : Value
  va : Value
  X : HProp
attribute [local irreducible] WP WPL QSeq QBlk QRet Does Cell Cells Rd Mine Ent Aside RV DqX DqAt Yield
section
variable {B : World} {F H G : HProp} {g : Int}
def KSt.heap (x : KSt) : HProp := Mine 48 3 x.va x.acts.length (qCells x.acts) + (Mine 3 1 x.vr x.R.length (zs x.R) + (Mine 3 1 x.vm x.N.length (zs x.N) + x.X))
structure KSt.Ok (B : World) (x : KSt) : Prop where
  hi : x.i ≤ 100
  hk : 0 ≤ x.k ∧ x.k < 100003
  hR : x.R.length = x.i
  hN : x.N.length = x.i
  hA : x.acts.length = x.i
  see : ∀ a ∈ x.acts, a.l.length ≤ a.cap ∧ Rd B (Mine 3 1 x.vr x.R.length (zs x.R) + x.X) 1 (.slice a.lo a.l.length a.cap) a.l.length (zs a.l)
theorem Ent.all_drop : Ent H emp := by
  have := Ent.drop_left H emp
  rw [HProp.add_emp] at this
  exact this
theorem plays_specN {q n g : Int} {s : Value} {acts : List QAct} {lo : Option Addr} {lcap m : Nat} {l : List Int} (hm : l.length = m) (hn : 0 ≤ n ∧ n ≤ 255) (hs : Rd B F 3 s acts.length (qCells acts))
    (hacts : ∀ a ∈ acts, a.l.length ≤ a.cap ∧ Rd B F 1 (.slice a.lo a.l.length a.cap) a.l.length (zs a.l)) (hl : Rd B F 1 (.slice lo l.length lcap) l.length (zs l)) (hlc : l.length ≤ lcap) :
    Does Try.prog B 5 [.int .i64 q, .int .u8 n, .slice lo m lcap, s, .int .i64 g] F fun r H' => Ent H' F ∧ r = .bool true := by
  subst hm; exact plays_spec hn hs hacts hl hlc
theorem known_spec : Does Try.prog B 6 [] emp fun r H' => Ent H' emp ∧ r = .bool true := by
  refine fn_intro 157 Try.func6 rfl rfl rfl ?_
  refine walk ?_
  refine wp_loopF (α := Nat × Int) [0, 1, 2, 3, 4, 5, 6, 13, 14, 15, 16, 17, 18, 19, 20, 21, 22, 23, 24, 25, 26, 27, 28, 29, 30, 31, 32, 33, 34, 35, 36, 37, 38, 39, 40, 41, 42, 43, 44, 45, 46, 47, 48, 49, 50, 51, 52, 53, 54, 55, 56, 57, 58, 59, 60, 61, 62, 63, 64, 65, 66, 67, 68, 69, 70, 71, 72, 73, 74, 75, 76, 77, 78, 79, 80] (fun x => [(1, .int .i64 x.2), (2, .int .i64 x.1)]) (fun _ => emp) (fun x => x.1 ≤ 60 ∧ 0 ≤ x.2 ∧ x.2 < 100003) (fun x => 60 - x.1) (0, 1) agreed (Ent.refl _) ⟨by omega, by omega, by omega⟩ ?_
  rintro ⟨n, k⟩ g0 ⟨hn, hk0, hk1⟩
  simp only at hn hk0 hk1
  simp only [putAll]
  by_cases hlt : n < 60
  · refine walk ?_
    refine wp_loopF (α := KSt) [1, 3, 4, 5, 6, 17, 18, 19, 20, 21, 22, 23, 24, 25, 26, 27, 28, 29, 30, 31, 32, 33, 34, 35, 36, 37, 38, 39, 40, 41, 42, 43, 44, 45, 46, 47, 48, 49, 50, 51, 52] (fun x => [(1, .int .i64 x.k), (3, x.va), (4, x.vr), (5, x.vm), (6, .int .i64 x.i)]) (fun x => x.heap) (fun x => x.Ok B) (fun x => 100 - x.i) ⟨0, k, [], [], [], .slice none 0 0, .slice none 0 0, .slice none 0 0, emp⟩ agreed ?_
      ⟨Nat.zero_le _, ⟨hk0, hk1⟩, rfl, rfl, rfl, by simp⟩ ?_
    · show Ent emp (Mine 48 3 (.slice none 0 0) 0 [] + (Mine 3 1 (.slice none 0 0) 0 [] + (Mine 3 1 (.slice none 0 0) 0 [] + emp)))
      rw [Mine.nil, Mine.nil]
      simp only [HProp.emp_add]
      exact Ent.refl _
    rintro ⟨i, k, R, N, acts, vr, vm, va, X⟩ g1 ⟨hi, ⟨hk0, hk1⟩, hR, hN, hA, see⟩
    simp only at hi hk0 hk1 hR hN hA see
    simp only [putAll, KSt.heap]
    by_cases hl : i < 100
    · refine walk ?_
      refine s_buildInts (cs := [.int .i64 (k % 30)]) rfl rfl rfl rfl rfl ?_
      intro bb
      refine s_appendK (v := vr) rfl rfl (Rd.blk0 (m := 1) (e := 3) rfl (by simp [maxLen])) rfl rfl ?_ rfl ?_
      · simp only [maxLen]; omega
      intro vr' X' he
      refine WPL.shape ?_
      rintro ar cr rfl hlr hcr hmr
      refine WPL.rd fun hrd => ?_
      have hmr' : cr ≤ 9223372036854775807 := by simpa [maxLen] using hmr
      refine walk ?_
      (apply s_sliceL (l := i - i % 7); (· exact rfl); (· exact rfl); (· omega); (· omega); (· exact rfl))
      refine s_build (cs := [.int .i64 (k / 3 % 8), .int .i64 (k % 30), .slice (partAddr ar cr (i - i % 7) 1) (R.length + 1 - (i - i % 7)) (cr - (i - i % 7))]) rfl rfl ?_
      refine s_buildRows [[.int .i64 (k / 3 % 8), .int .i64 (k % 30), .slice (partAddr ar cr (i - i % 7) 1) (R.length + 1 - (i - i % 7)) (cr - (i - i % 7))]] rfl rfl rfl rfl rfl rfl ?_
      intro ba
      refine s_append (v := va) rfl rfl (Rd.blk0 (m := 1) (sz := 3) (e := 48) rfl (by simp [maxLen])) rfl rfl ?_ rfl ?_
      · simp only [maxLen]; omega
      intro va'
      refine walk ?_
      refine s_buildInts (cs := [.int .i64 (k % 31)]) rfl rfl rfl rfl rfl ?_
      intro bm
      refine s_append (v := vm) rfl rfl (Rd.blk0 (m := 1) (e := 3) rfl (by simp [maxLen])) rfl rfl ?_ rfl ?_
      · simp only [maxLen]; omega
      intro vm'
      refine walk ?_
      have hdr := hrd.sliceL (i - i % 7) (by omega) hcr
      refine ⟨⟨i + 1, (k * 31 + 7 * i + 11) % 100003, R ++ [k % 30], N ++ [k % 31], acts ++ [⟨k / 3 % 8, k % 30, partAddr ar cr (i - i % 7) 1, cr - (i - i % 7), (R ++ [k % 30]).drop (i - i % 7)⟩], .slice ar (R.length + 1) cr, vm', va', X' + X⟩, asided, agreed, ?_, ?_, by simp only; omega⟩
      · simp only [KSt.heap, len_push, zs_push, qCells_push, QAct.cells, List.length_drop, List.flatten_cons, List.flatten_nil, List.append_nil]
        exact Ent.auto
      · refine ⟨by simp only; omega, by simp only; omega, by simp [hR], by simp [hN], by simp [hA], ?_⟩
        intro a ha
        simp only [List.mem_append, List.mem_singleton] at ha
        simp only [zs_push, len_push]
        rcases ha with ha | rfl
        · obtain ⟨h1, h2⟩ := see a ha
          refine ⟨h1, h2.ent ?_⟩
          rw [← HProp.add_assoc]
          exact he.frame_right X
        · refine ⟨by simp; omega, ?_⟩
          simp only [List.length_drop, len_push, ← zs_drop, zs_push]
          simp only [Nat.mul_one] at hdr
          exact hdr.ent (Ent.drop_right _ _)
    · have hie : i = 100 := by omega
      subst hie
      refine WP.shape ?_
      rintro aa ca rfl hla hca hma
      refine WP.rd fun hrdA => ?_
      refine WP.split (Mine 3 1 vr R.length (zs R)) ?_
      refine WP.shape ?_
      rintro ar cr rfl hlr hcr hmr
      refine WP.rd fun hrdR => ?_
      refine WP.split (Mine 3 1 vm N.length (zs N)) ?_
      refine WP.rd fun hrdN => ?_
      have hrdT := hrdR.sliceH n (by omega)
      rw [Nat.mul_one, zs_take] at hrdT
      have hrdT' : Rd B (Mine 3 1 (.slice ar R.length cr) R.length (zs R)) 1 (.slice ar (R.take n).length cr) (R.take n).length (zs (R.take n)) := by
        rw [List.length_take, Nat.min_eq_left (by omega)]; exact hrdT
      have hmr' : cr ≤ 9223372036854775807 := by simpa [maxLen] using hmr
      refine walk ?_
      have hA' : acts.length = 100 := hA
      (refine wp_draw [12, 18, 25] (.look 0 (.look 1 (.look 2 (.look 3 (.look 4 (.look 5 (.look 6 (.look 7 (.look 8 (.look 9 (.look 10 (.look 11 (.act 12 (.look 13 (.look 14 (.look 15 (.look 16 (.look 17 (.act 18 (.look 19 (.look 20 (.look 21 (.look 22 (.look 23 (.look 24 (.act 25 (.look 26 (.look 27 .nil)) .stop))))))) .stop)))))) .stop))))))))))))) (by kernel_rfl) ?_; (apply dw_pure; (· exact rfl); (· exact rfl); (· (intro G; exact looked))); (apply dw_pure; (· exact rfl); (· exact rfl); (· (intro G; exact looked))); (apply dw_pure; (· exact rfl); (· exact rfl); (· (intro G; refine s_shl rfl rfl (by omega) rfl rfl ?_; exact looked))); (apply dw_pure; (· exact rfl); (· exact rfl); (· (intro G; exact looked))); (apply dw_pure; (· exact rfl); (· exact rfl); (· (intro G; exact looked))); (apply dw_pure; (· exact rfl); (· exact rfl); (· (intro G; exact looked))); (apply dw_pure; (· exact rfl); (· exact rfl); (· (intro G; exact looked))); (apply dw_pure; (· exact rfl); (· exact rfl); (· (intro G; exact looked))); (apply dw_pure; (· exact rfl); (· exact rfl); (· (intro G; (apply s_sliceH (h := n); (· exact rfl); (· exact rfl); (· omega); (· omega); (· exact rfl)); exact looked))); (apply dw_pure; (· exact rfl); (· exact rfl); (· (intro G; exact looked))); (apply dw_pure; (· exact rfl); (· exact rfl); (· (intro G; exact looked))); (apply dw_pure; (· exact rfl); (· exact rfl); (· (intro G; exact looked))); skip)
      refine dw_do rfl rfl ?_ dw_stop
      refine s_call rfl (plays_specN (g := k % 30) (n := k % 9) (acts := acts) (l := R.take n) (lo := ar) (lcap := cr) (m := n) (by rw [List.length_take]; omega) (by omega) ?_ ?_ ?_ ?_) rfl ?_
      · exact hrdA.ent InH.ent
      · exact fun a ha => ⟨(see a ha).1, (see a ha).2.ent Ent.auto⟩
      · exact hrdT'.ent InH.ent
      · rw [List.length_take]; omega
      rintro _ _ ⟨he1, rfl⟩
      refine WPL.ent he1 ?_
      refine wpl_nil (qone ⟨(by exact st_nil), ?_⟩)
      ((apply dw_pure; (· exact rfl); (· exact rfl); (· (intro G; exact looked))); (apply dw_pure; (· exact rfl); (· exact rfl); (· (intro G; exact looked))); (apply dw_pure; (· exact rfl); (· exact rfl); (· (intro G; exact looked))); (apply dw_pure; (· exact rfl); (· exact rfl); (· (intro G; exact looked))); (apply dw_pure; (· exact rfl); (· exact rfl); (· (intro G; exact looked))); skip)
      refine dw_do rfl rfl ?_ dw_stop
      refine step_wanted rfl rfl ?_
      refine s_call rfl (nobody_sp (l := N) (by omega) (hrdN.ent InH.ent)) rfl ?_
      rintro _ _ ⟨he2, rfl⟩
      refine WPL.ent he2 ?_
      refine wpl_nil (qone ⟨(by exact st_nil), ?_⟩)
      ((apply dw_pure; (· exact rfl); (· exact rfl); (· (intro G; exact looked))); (apply dw_pure; (· exact rfl); (· exact rfl); (· (intro G; exact looked))); (apply dw_pure; (· exact rfl); (· exact rfl); (· (intro G; exact looked))); (apply dw_pure; (· exact rfl); (· exact rfl); (· (intro G; exact looked))); (apply dw_pure; (· exact rfl); (· exact rfl); (· (intro G; exact looked))); (apply dw_pure; (· exact rfl); (· exact rfl); (· (intro G; exact looked))); skip)
      refine dw_do rfl rfl ?_ dw_stop
      refine step_wanted rfl rfl ?_
      refine s_call rfl (ahead_sp (l := N) (by omega) (hrdN.ent InH.ent)) rfl ?_
      rintro _ _ ⟨he3, rfl⟩
      refine WPL.ent he3 ?_
      refine wpl_nil (qone ⟨(by exact st_nil), ?_⟩)
      ((apply dw_pure; (· exact rfl); (· exact rfl); (· (intro G; exact looked))); (apply dw_pure; (· exact rfl); (· exact rfl); (· (intro G; exact looked))); refine dw_nil ?_; skip)
      refine walk ?_
      exact ⟨(n + 1, k), asided, agreed, Ent.all_drop, ⟨hlt, hk0, hk1⟩, by simp only; omega⟩
  · refine walk ?_
    refine wp_loopF (α := Nat) [0, 7, 81, 82, 83, 84, 85, 86, 87, 88, 89, 90, 91, 92, 93] (fun j => [(7, .int .i64 ((j : Int) - 2))]) (fun _ => emp) (fun j => j ≤ 22) (fun j => 22 - j) 0 agreed (Ent.refl _) (by omega) ?_
    rintro j g2 hj
    simp only [putAll]
    by_cases hlj : j < 22
    · refine walk ?_
      refine s_buildInts (cs := zs [1, 2, 3, 4, 5, 6, 7, 8, 9]) rfl rfl rfl rfl rfl ?_
      intro b1
      refine s_build (cs := [.int .i64 0, .int .i64 7, .slice none 0 0]) rfl rfl ?_
      refine s_build (cs := [.int .i64 4, .int .i64 0, .slice none 0 0]) rfl rfl ?_
      refine s_build (cs := [.int .i64 5, .int .i64 0, .slice none 0 0]) rfl rfl ?_
      refine s_build (cs := [.int .i64 6, .int .i64 0, .slice none 0 0]) rfl rfl ?_
      refine s_buildRows [[.int .i64 0, .int .i64 7, .slice none 0 0], [.int .i64 4, .int .i64 0, .slice none 0 0], [.int .i64 5, .int .i64 0, .slice none 0 0], [.int .i64 6, .int .i64 0, .slice none 0 0]] rfl rfl rfl rfl rfl rfl ?_
      intro b2
      refine s_call rfl (plays_spec (q := (j : Int) - 2) (g := 3) (n := 1) (acts := [⟨0, 7, none, 0, []⟩, ⟨4, 0, none, 0, []⟩, ⟨5, 0, none, 0, []⟩, ⟨6, 0, none, 0, []⟩]) (l := [1, 2, 3, 4, 5, 6, 7, 8, 9]) (by omega) (Rd.blk0 rfl (by simp [maxLen])) ?_ (Rd.blk0 rfl (by simp [maxLen])) (by simp)) rfl ?_
      · intro a ha
        simp only [List.mem_cons, List.not_mem_nil, or_false] at ha
        rcases ha with rfl | rfl | rfl | rfl <;> exact ⟨Nat.le_refl _, Rd.nil⟩
      rintro _ _ ⟨he1, rfl⟩
      refine walk ?_
      exact ⟨j + 1, asided, agreed, Ent.all_drop, by omega, by omega⟩
    · refine walk ?_
      refine s_call rfl (dGet_nil) rfl ?_
      rintro _ _ ⟨e_, rfl⟩
      obtain rfl := e_.symm
      refine walk ?_
      refine s_call rfl (dMove_nil) rfl ?_
      rintro _ _ ⟨e_, rfl⟩
      obtain rfl := e_.symm
      refine walk ?_
      refine s_call rfl (dPut_nil) rfl ?_
      rintro _ _ ⟨e_, rfl⟩
      obtain rfl := e_.symm
      refine walk ?_
      refine s_buildInts (cs := zs [1]) rfl rfl rfl rfl rfl ?_
      intro b1
      refine walk ?_
      refine s_call rfl (dLay_nil (l := [1]) (by simp [maxLen])) rfl ?_
      rintro _ _ ⟨e_, rfl⟩
      obtain rfl := e_.symm
      refine walk ?_
      refine s_call rfl (dSteal_nil) rfl ?_
      rintro _ _ ⟨e_, rfl⟩
      obtain rfl := e_.symm
      refine walk ?_
      refine s_call rfl (dRoom_nil) rfl ?_
      rintro _ _ ⟨e_, rfl⟩
      obtain rfl := e_.symm
      refine walk ?_
      refine s_call rfl (dLen_nil) rfl ?_
      rintro _ _ ⟨e_, rfl⟩
      obtain rfl := e_.symm
      refine walk ?_
      refine s_call rfl dAll_nil rfl ?_
      rintro v _ rfl
      refine WPL.shape ?_
      rintro ao cap rfl _ _ _
      refine walk ?_
      refine s_call rfl (dAhead_nil) rfl ?_
      rintro _ _ ⟨e_, rfl⟩
      obtain rfl := e_.symm
      refine walk ?_
      refine s_call rfl (dCopy_nil) rfl ?_
      rintro _ _ ⟨e_, rfl⟩
      obtain rfl := e_.symm
      refine walk ?_
      refine s_call rfl (dSame_nil) rfl ?_
      rintro _ _ ⟨e_, rfl⟩
      obtain rfl := e_.symm
      refine walk ?_
      refine s_call rfl (plays_spec (q := 131072) (g := 0) (n := 0) (acts := []) (l := []) (by omega) Rd.nil (by simp) Rd.nil (by simp)) rfl ?_
      rintro _ _ ⟨he1, rfl⟩
      refine walk ?_
      refine s_call rfl (works_spec) rfl ?_
      rintro _ _ ⟨e_, rfl⟩
      obtain rfl := e_.symm
      refine walk ?_
      exact ret1 (v := .bool _) (.inr rfl) rfl rfl ⟨he1.trans Ent.all_drop, rfl⟩
end
end Go.Proofs.Ytcnpcmdcbafaeaa
