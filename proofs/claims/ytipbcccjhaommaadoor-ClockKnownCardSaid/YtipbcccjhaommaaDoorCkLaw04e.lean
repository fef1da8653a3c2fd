/- The closed statement of clocks. No condition. -/
import Derived.Test.YtipbcccjhaommaaDoorCkLaw04d
namespace Go.Proofs.YtipbcccjhaommaaDoor
open Go Go.SL Go.SL.Flo
set_option linter.unusedSimpArgs false
set_option linter.unusedVariables false
set_option maxRecDepth 10000
set_option maxHeartbeats 8000000
theorem actsC_push (l : List Act) (a : Act) : actsC (l ++ [a]) = actsC l ++ actC a := by
  induction l with
  | nil => rfl
  | cons b l ih => simp only [List.cons_append, actsC, ih]
theorem wrap64 (x : Int) : ∃ r, IntKind.i64.wrap x = r ∧ r < 9223372036854775808 := by
  refine ⟨_, rfl, ?_⟩
  unfold IntKind.wrap
  simp only [IntKind.bits, IntKind.signed]
  have := Int.emod_lt_of_pos x (show (0 : Int) < 18446744073709551616 by omega)
  simp
  split <;> omega
attribute [local irreducible] WP WPL QSeq QBlk QRet Does Cell Cells Rd Mine Ent Aside RV e0 Slid QScp ClkAt sumI clampI sinceC markC addC milGo stepC
section
variable {B : World} {F H : HProp}
theorem known_law (T : Tab B) : Does Tryd.prog B 6 [] H fun r H' => H' = H ∧ r = .bool true := by
  refine Does.frame0 ?_
  refine fn_intro 127 Tryd.func6 rfl rfl rfl ?_
  refine walk ?_
  refine s_call rfl (zero2_spec) rfl ?_
  rintro _ _ ⟨e_, rfl⟩
  obtain rfl := e_.symm
  refine walk ?_
  refine s_fneg rfl rfl ?_
  refine s_call rfl (zero2_spec) rfl ?_
  rintro _ _ ⟨e_, rfl⟩
  obtain rfl := e_.symm
  refine walk ?_
  refine s_fquo (r := 9218868437227405312) rfl rfl (by kernel_rfl) rfl ?_
  refine s_call rfl (zero2_spec) rfl ?_
  rintro _ _ ⟨e_, rfl⟩
  obtain rfl := e_.symm
  refine walk ?_
  refine s_fquo (r := 18442240474082181120) rfl rfl (by kernel_rfl) rfl ?_
  refine s_call rfl (zero2_spec) rfl ?_
  rintro _ _ ⟨e_, rfl⟩
  obtain rfl := e_.symm
  refine walk ?_
  refine s_call rfl (zero2_spec) rfl ?_
  rintro _ _ ⟨e_, rfl⟩
  obtain rfl := e_.symm
  refine walk ?_
  refine s_fquoN rfl rfl (by decide) rfl ?_
  intro nan hnan1 hnan2
  obtain ⟨fl, hfl⟩ : ∃ fl : List Nat, fl = [0, 9223372036854775808, 4609434218613702656, 4502148214488346440, 4796552370005077389, 9094988921128908188, 9218868437227405312, 18442240474082181120, nan, 13830554455654793216, 4621819117026021567, 4712889646492470477] := ⟨_, rfl⟩
  have hll : fl.length = 12 := by rw [hfl]; rfl
  have hfb : ∀ f ∈ fl, f < 2 ^ 64 := by
    intro f hf
    rw [hfl] at hf
    simp only [List.mem_cons, List.not_mem_nil, or_false] at hf
    omega
  refine s_buildInts (cs := fl.map flt) (by rw [hfl]; rfl) rfl (by rw [hfl]; rfl) rfl rfl ?_
  intro bf
  have hcell : ∀ j (h : j < 12), Cell B (blk bf (fl.map flt) 51) bf j (flt (fl[j]'(by omega))) := fun j h => by
    rw [← HProp.add_emp (blk bf (fl.map flt) 51)]
    exact Cell.blk (by rw [List.getElem?_map, List.getElem?_eq_getElem (by omega)]; rfl)
  have hmem : ∀ j (h : j < 12), fl[j]'(by omega) < 2 ^ 64 := fun j h => hfb _ (List.getElem_mem _)
  clear hfl hfb
  refine walk ?_
  refine wp_loopF (α := Nat × Nat) [0, 2, 3, 4, 5, 6, 7, 18, 19, 20, 21, 22, 23, 24, 25, 26, 27, 28, 29, 30, 31, 32, 33, 34, 35, 36, 37, 38, 39, 40, 41, 42, 43, 44, 45, 46, 47, 48, 49, 50, 51, 52, 53, 54, 55, 56, 57, 58, 59, 60, 61, 62, 63, 64, 65, 66, 67, 68, 69, 70, 71, 72, 73, 74, 75, 76, 77, 78, 79, 80, 81, 82, 83, 84, 85, 86, 87, 88, 89, 90, 91, 92, 93, 94, 95, 96, 97, 98, 99, 100, 101, 102, 103, 104, 105, 106, 107, 108, 109, 110, 111, 112, 113, 114, 115, 116, 117] (fun x => [(3, .int .i64 x.1), (2, .int .i64 x.2)]) (fun x => blk bf (fl.map flt) 51 + H) (fun x => x.1 ≤ 60 ∧ x.2 < 100003) (fun x => 60 - x.1) (0, 1) agreed (Ent.refl _) ⟨by simp, by simp⟩ ?_
  rintro ⟨k, n0⟩ f0 ⟨hk, hn0⟩
  simp only at hk hn0
  simp only [putAll]
  by_cases hk60 : k < 60
  · refine walk ?_
    refine wp_loopF (α := Nat × Nat × List Act × Value × List Int × Value × List Int × Value × HProp) [2, 4, 5, 6, 7, 22, 23, 24, 25, 26, 27, 28, 29, 30, 31, 32, 33, 34, 35, 36, 37, 38, 39, 40, 41, 42, 43, 44, 45, 46, 47, 48, 49, 50, 51, 52, 53, 54, 55, 56, 57, 58, 59, 60, 61, 62, 63, 64, 65, 66, 67, 68, 69, 70, 71, 72, 73, 74, 75, 76, 77, 78, 79, 80, 81]
      (fun x => [(7, .int .i64 x.1), (2, .int .i64 x.2.1), (4, x.2.2.2.1), (5, x.2.2.2.2.2.1), (6, x.2.2.2.2.2.2.2.1)])
      (fun x => Mine 48 3 x.2.2.2.1 x.2.2.1.length (actsC x.2.2.1) + (Mine 2 1 x.2.2.2.2.2.1 x.2.2.2.2.1.length (zs x.2.2.2.2.1) + (Mine 3 1 x.2.2.2.2.2.2.2.1 x.2.2.2.2.2.2.1.length (zs x.2.2.2.2.2.2.1) + (blk bf (fl.map flt) 51 + (x.2.2.2.2.2.2.2.2 + H)))))
      (fun x => x.1 ≤ 70 ∧ x.2.1 < 100003 ∧ x.2.2.1.length = x.1 ∧ x.2.2.2.2.1.length ≤ x.1 ∧ x.2.2.2.2.2.2.1.length ≤ x.1 ∧ ∀ a ∈ x.2.2.1, Rd B x.2.2.2.2.2.2.2.2 1 a.s a.fs.length (a.fs.map flt) ∧ ∀ f ∈ a.fs, f < 2 ^ 64)
      (fun x => 70 - x.1) (0, n0, [], .slice none 0 0, [], .slice none 0 0, [], .slice none 0 0, emp) agreed ?_ ⟨by simp, hn0, rfl, by simp, by simp, by simp⟩ ?_
    · show Ent _ (Mine 48 3 (.slice none 0 0) 0 [] + (Mine 2 1 (.slice none 0 0) 0 [] + (Mine 3 1 (.slice none 0 0) 0 [] + (blk bf (fl.map flt) 51 + (emp + H)))))
      rw [Mine.nil, Mine.nil, Mine.nil, HProp.emp_add, HProp.emp_add, HProp.emp_add, HProp.emp_add]
      exact Ent.refl _
    rintro ⟨i, n, acts, vl, sp, vs, od, vo, X⟩ f1 ⟨hi, hn, hal, hsl, hol, hgood⟩
    simp only at hi hn hal hsl hol hgood
    simp only [putAll]
    by_cases hi70 : i < 70
    · obtain ⟨f0v, hf0⟩ : ∃ x, fl[n % 12]'(by omega) = x := ⟨_, rfl⟩
      obtain ⟨f1v, hf1⟩ : ∃ x, fl[n / 12 % 12]'(by omega) = x := ⟨_, rfl⟩
      obtain ⟨f2v, hf2⟩ : ∃ x, fl[i % 12]'(by omega) = x := ⟨_, rfl⟩
      have q0 := hcell (n % 12) (by omega)
      have q1 := hcell (n / 12 % 12) (by omega)
      have q2 := hcell (i % 12) (by omega)
      have m0 := hmem (n % 12) (by omega)
      have m1 := hmem (n / 12 % 12) (by omega)
      have m2 := hmem (i % 12) (by omega)
      rw [hf0] at q0 m0
      rw [hf1] at q1 m1
      rw [hf2] at q2 m2
      clear hf0 hf1 hf2
      obtain ⟨w, hw, _⟩ := wrap64 ((((n : Nat) : Int) % 9 - 1) * 2 ^ (min (((n : Nat) : Int) % 60).toNat IntKind.i64.bits))
      obtain ⟨w2, hw2, _⟩ := wrap64 ((((n : Nat) : Int) % 11 - 1) * 2 ^ (min (((n : Nat) : Int) / 7 % 59).toNat IntKind.i64.bits))
      refine walk ?_
      (refine wp_draw [25, 30, 31] (.look 0 (.look 1 (.look 2 (.look 3 (.look 4 (.look 5 (.look 6 (.look 7 (.look 8 (.look 9 (.look 10 (.look 11 (.look 12 (.look 13 (.look 14 (.look 15 (.look 16 (.look 17 (.look 18 (.look 19 (.look 20 (.look 21 (.look 22 (.look 23 (.look 24 (.look 26 (.look 27 (.act 25 (.look 28 (.look 29 (.act 30 (.act 31 (.look 32 .nil) .stop) .stop))) .stop)))))))))))))))))))))))))))) (by kernel_rfl) ?_; (apply dw_pure; (· exact rfl); (· exact rfl); (· (intro G; exact looked))); (apply dw_pure; (· exact rfl); (· exact rfl); (· (intro G; exact looked))); (apply dw_pure; (· exact rfl); (· exact rfl); (· (intro G; exact looked))); (apply dw_pure; (· exact rfl); (· exact rfl); (· (intro G; exact looked))); (apply dw_pure; (· exact rfl); (· exact rfl); (· (intro G; exact looked))); (apply dw_pure; (· exact rfl); (· exact rfl); (· (intro G; exact looked))); (apply dw_pure; (· exact rfl); (· exact rfl); (· (intro G; exact looked))); (apply dw_pure; (· exact rfl); (· exact rfl); (· (intro G; exact looked))); (apply dw_pure; (· exact rfl); (· exact rfl); (· (intro G; refine s_shl rfl rfl (by omega) hw rfl ?_; exact looked))); (apply dw_pure; (· exact rfl); (· exact rfl); (· (intro G; exact looked))); (apply dw_pure; (· exact rfl); (· exact rfl); (· (intro G; exact looked))); (apply dw_pure; (· exact rfl); (· exact rfl); (· (intro G; exact looked))); (apply dw_pure; (· exact rfl); (· exact rfl); (· (intro G; (apply s_indexAddr (j := n % 12) (o' := n % 12); (· exact rfl); (· exact rfl); (· omega); (· omega); (· omega); (· exact rfl)); exact looked))); (apply dw_look; (· exact rfl); (· exact rfl); (· (exact looked))); (apply dw_pure; (· exact rfl); (· exact rfl); (· (intro G; exact looked))); (apply dw_pure; (· exact rfl); (· exact rfl); (· (intro G; exact looked))); (apply dw_pure; (· exact rfl); (· exact rfl); (· (intro G; exact looked))); (apply dw_pure; (· exact rfl); (· exact rfl); (· (intro G; exact looked))); (apply dw_pure; (· exact rfl); (· exact rfl); (· (intro G; (apply s_indexAddr (j := n / 12 % 12) (o' := n / 12 % 12); (· exact rfl); (· exact rfl); (· omega); (· omega); (· omega); (· exact rfl)); exact looked))); (apply dw_look; (· exact rfl); (· exact rfl); (· (exact looked))); (apply dw_pure; (· exact rfl); (· exact rfl); (· (intro G; exact looked))); (apply dw_pure; (· exact rfl); (· exact rfl); (· (intro G; exact looked))); (apply dw_pure; (· exact rfl); (· exact rfl); (· (intro G; exact looked))); (apply dw_pure; (· exact rfl); (· exact rfl); (· (intro G; (apply s_indexAddr (j := i % 12) (o' := i % 12); (· exact rfl); (· exact rfl); (· omega); (· omega); (· omega); (· exact rfl)); exact looked))); (apply dw_look; (· exact rfl); (· exact rfl); (· (exact looked))); (apply dw_pure; (· exact rfl); (· exact rfl); (· (intro G; exact looked))); (apply dw_pure; (· exact rfl); (· exact rfl); (· (intro G; exact looked))); skip)
      refine dw_do rfl rfl ?_ dw_stop
      refine s_buildInts (cs := [flt f0v, flt f1v, flt f2v]) rfl rfl rfl rfl rfl ?_
      intro bs
      refine wpl_nil (qone ⟨(by refine st_past (by kernel_rfl) ?_; refine st_past (by kernel_rfl) ?_; refine st_past (by kernel_rfl) ?_; exact st_nil), ?_⟩)
      ((apply dw_pure; (· exact rfl); (· exact rfl); (· (intro G; (apply s_sliceH (h := n % 4); (· exact rfl); (· exact rfl); (· omega); (· omega); (· exact rfl)); exact looked))); (apply dw_pure; (· exact rfl); (· exact rfl); (· (intro G; (refine s_build (cs := [.int .i64 (((n : Nat) : Int) % 5), .int .i64 w, .slice (some ⟨bs, 0, none⟩) (n % 4) 3]) ?_ rfl ?_; (· kernel_rfl)); exact looked))); skip)
      refine dw_do rfl rfl ?_ dw_stop
      refine s_buildSlice (cs := [.int .i64 (((n : Nat) : Int) % 5), .int .i64 w, .slice (some ⟨bs, 0, none⟩) (n % 4) 3]) rfl ?_ rfl ?_
      · kernel_rfl
      intro ba
      refine wpl_nil (qone ⟨(by refine st_past (by kernel_rfl) ?_; refine st_past (by kernel_rfl) ?_; refine st_past (by kernel_rfl) ?_; exact st_nil), ?_⟩)
      (skip)
      refine dw_do rfl rfl ?_ dw_stop
      refine s_append (v := vl) rfl rfl (Rd.blk0 (m := 1) (sz := 3) (e := 48) rfl (by simp [maxLen])) rfl rfl ?_ rfl ?_
      · simp only [maxLen]; omega
      intro vl'
      refine wpl_nil (qone ⟨(by refine st_past (by kernel_rfl) ?_; refine st_past (by kernel_rfl) ?_; refine st_past (by kernel_rfl) ?_; exact st_nil), ?_⟩)
      ((apply dw_pure; (· exact rfl); (· exact rfl); (· (intro G; exact looked))); refine dw_nil ?_; skip)
      have ha : ∀ a ∈ acts ++ [⟨((n : Nat) : Int) % 5, w, .slice (some ⟨bs, 0, none⟩) (n % 4) 3, [f0v, f1v, f2v].take (n % 4)⟩], Rd B (blk bs [flt f0v, flt f1v, flt f2v] 51 + X) 1 a.s a.fs.length (a.fs.map flt) ∧ ∀ f ∈ a.fs, f < 2 ^ 64 := by
        intro a ha
        rcases List.mem_append.1 ha with h | h
        · exact ⟨(hgood a h).1.ent InH.ent, (hgood a h).2⟩
        · simp only [List.mem_singleton] at h
          subst h
          dsimp only
          refine ⟨?_, fun f hf => ?_⟩
          · have e : ([f0v, f1v, f2v].take (n % 4)).length = n % 4 := by rw [List.length_take]; simp only [List.length_cons, List.length_nil]; omega
            rw [e, List.map_take]
            have := Rd.sliceH (B := B) (H := blk bs [flt f0v, flt f1v, flt f2v] 51 + X) (sz := 1) (n := 3) (cap := 3) (ao := some ⟨bs, 0, none⟩) (cs := [flt f0v, flt f1v, flt f2v]) (n % 4) (Rd.blk0 (e := 51) rfl (by simp [maxLen])) (by omega)
            rw [Nat.mul_one] at this
            exact this
          · have := List.mem_of_mem_take hf
            simp only [List.mem_cons, List.not_mem_nil, or_false] at this
            omega
      have el : (acts ++ [(⟨((n : Nat) : Int) % 5, w, .slice (some ⟨bs, 0, none⟩) (n % 4) 3, [f0v, f1v, f2v].take (n % 4)⟩ : Act)]).length = acts.length + 1 := by rw [List.length_append]; rfl
      have ec := actsC_push acts ⟨((n : Nat) : Int) % 5, w, .slice (some ⟨bs, 0, none⟩) (n % 4) 3, [f0v, f1v, f2v].take (n % 4)⟩
      unfold actC at ec
      rw [← ec, ← el]
      generalize hacts' : (acts ++ [⟨((n : Nat) : Int) % 5, w, .slice (some ⟨bs, 0, none⟩) (n % 4) 3, [f0v, f1v, f2v].take (n % 4)⟩] : List Act) = acts' at *
      clear hacts' ec
      have hn2 : (n * 31 + 7 * i + 11) % 100003 < 100003 := Nat.mod_lt _ (by omega)
      by_cases h50 : i < 50
      · refine walk ?_
        refine s_shl rfl rfl (by omega) hw2 rfl ?_
        refine walk ?_
        refine s_buildInts (cs := [.int .i64 w2]) rfl rfl rfl rfl rfl ?_
        intro b3
        refine walk ?_
        refine s_append (v := vs) rfl rfl (Rd.blk0 (m := 1) (e := 2) rfl (by simp [maxLen])) rfl rfl ?_ rfl ?_
        · simp only [maxLen]; omega
        intro vs'
        rw [← zs_push, show sp.length + 1 = (sp ++ [w2]).length by simp]
        refine walk ?_
        refine s_buildInts (cs := [.int .i64 (((n : Nat) : Int) % 97)]) rfl rfl rfl rfl rfl ?_
        intro b4
        refine walk ?_
        refine s_append (v := vo) rfl rfl (Rd.blk0 (m := 1) (e := 3) rfl (by simp [maxLen])) rfl rfl ?_ rfl ?_
        · simp only [maxLen]; omega
        intro vo'
        rw [← zs_push, show od.length + 1 = (od ++ [((n : Nat) : Int) % 97]).length by simp]
        refine walk ?_
        exact ⟨(i + 1, (n * 31 + 7 * i + 11) % 100003, acts', vl', sp ++ [w2], vs', od ++ [((n : Nat) : Int) % 97], vo', blk bs [flt f0v, flt f1v, flt f2v] 51 + X), asided, agreed, Ent.auto, ⟨by omega, hn2, by simp only; omega, by simp only [List.length_append, List.length_cons, List.length_nil]; omega, by simp only [List.length_append, List.length_cons, List.length_nil]; omega, ha⟩, by simp only; omega⟩
      · refine walk ?_
        exact ⟨(i + 1, (n * 31 + 7 * i + 11) % 100003, acts', vl', sp, vs, od, vo, blk bs [flt f0v, flt f1v, flt f2v] 51 + X), asided, agreed, Ent.auto, ⟨by omega, hn2, by simp only; omega, by simp only; omega, by simp only; omega, ha⟩, by simp only; omega⟩
    · have hal70 : acts.length = 70 := by omega
      refine WP.rd fun rdA => ?_
      refine WP.know (fun w hw => (Mine.rd ⟨w, hw.drop_left.drop_right⟩ : Rd B (Mine 2 1 vs sp.length (zs sp)) 1 vs sp.length (zs sp))) fun rdS => ?_
      refine WP.know (fun w hw => (Mine.rd ⟨w, hw.drop_left.drop_left.drop_right⟩ : Rd B (Mine 3 1 vo od.length (zs od)) 1 vo od.length (zs od))) fun rdO => ?_
      obtain ⟨fk, hfk⟩ : ∃ x, fl[k % 12]'(by omega) = x := ⟨_, rfl⟩
      have qk := hcell (k % 12) (by omega)
      rw [hfk] at qk
      clear hfk
      obtain ⟨w1, hw1, hr1⟩ := wrap64 (((n : Nat) : Int) * 2 ^ (min (((k : Nat) : Int) % 50).toNat IntKind.i64.bits))
      obtain ⟨w2, hw2, _⟩ := wrap64 (((k : Nat) : Int) * 2 ^ (min (((k : Nat) : Int) % 55).toNat IntKind.i64.bits))
      obtain ⟨w3, hw3, hr3⟩ := wrap64 (((k : Nat) : Int) * 2 ^ (min (((k : Nat) : Int) % 40).toNat IntKind.i64.bits))
      refine walk ?_
      (refine wp_draw [9, 22, 33] (.look 0 (.look 1 (.look 2 (.look 3 (.look 4 (.look 5 (.look 6 (.look 7 (.look 8 (.act 9 (.look 10 (.look 11 (.look 12 (.look 13 (.look 14 (.look 15 (.look 16 (.look 17 (.look 18 (.look 19 (.look 20 (.look 21 (.act 22 (.look 23 (.look 24 (.look 25 (.look 26 (.look 27 (.look 28 (.look 29 (.look 30 (.look 31 (.look 32 (.act 33 (.look 34 (.look 35 .nil)) .stop))))))))))) .stop))))))))))))) .stop)))))))))) (by kernel_rfl) ?_; (apply dw_pure; (· exact rfl); (· exact rfl); (· (intro G; exact looked))); (apply dw_pure; (· exact rfl); (· exact rfl); (· (intro G; exact looked))); (apply dw_pure; (· exact rfl); (· exact rfl); (· (intro G; exact looked))); (apply dw_pure; (· exact rfl); (· exact rfl); (· (intro G; exact looked))); (apply dw_pure; (· exact rfl); (· exact rfl); (· (intro G; refine s_shl rfl rfl (by omega) hw1 rfl ?_; exact looked))); (apply dw_pure; (· exact rfl); (· exact rfl); (· (intro G; exact looked))); (apply dw_pure; (· exact rfl); (· exact rfl); (· (intro G; exact looked))); (apply dw_pure; (· exact rfl); (· exact rfl); (· (intro G; exact looked))); (apply dw_pure; (· exact rfl); (· exact rfl); (· (intro G; refine s_shl rfl rfl (by omega) hw2 rfl ?_; exact looked))); skip)
      refine dw_do rfl rfl ?_ dw_stop
      refine s_call rfl (plays_law (l := acts) T (rdA.ent InH.ent) (fun a ha => ⟨(hgood a ha).1.ent InH.ent, (hgood a ha).2⟩) hr1) rfl ?_
      rintro _ _ ⟨e_, rfl⟩
      obtain rfl := e_.symm
      refine wpl_nil (qone ⟨(by exact st_nil), ?_⟩)
      ((apply dw_pure; (· exact rfl); (· exact rfl); (· (intro G; exact looked))); (apply dw_pure; (· exact rfl); (· exact rfl); (· (intro G; exact looked))); (apply dw_pure; (· exact rfl); (· exact rfl); (· (intro G; exact looked))); (apply dw_pure; (· exact rfl); (· exact rfl); (· (intro G; exact looked))); (apply dw_pure; (· exact rfl); (· exact rfl); (· (intro G; exact looked))); (apply dw_pure; (· exact rfl); (· exact rfl); (· (intro G; exact looked))); (apply dw_pure; (· exact rfl); (· exact rfl); (· (intro G; exact looked))); (apply dw_pure; (· exact rfl); (· exact rfl); (· (intro G; (first | (refine step_wanted rfl rfl ?_; refine s_shl rfl rfl (by omega) hw3 rfl ?_) | skip); exact looked))); (apply dw_pure; (· exact rfl); (· exact rfl); (· (intro G; exact looked))); (apply dw_pure; (· exact rfl); (· exact rfl); (· (intro G; exact looked))); (apply dw_pure; (· exact rfl); (· exact rfl); (· (intro G; exact looked))); (apply dw_pure; (· exact rfl); (· exact rfl); (· (intro G; (first | (refine step_wanted rfl rfl ?_; refine s_shl rfl rfl (by omega) hw1 rfl ?_) | skip); exact looked))); skip)
      refine dw_do rfl rfl ?_ dw_stop
      refine step_wanted rfl rfl ?_
      refine s_call rfl (orders_law (l := sp) (ord := od) T (rdS.ent InH.ent) (rdO.ent InH.ent) hr3) rfl ?_
      rintro _ _ ⟨e_, rfl⟩
      obtain rfl := e_.symm
      refine wpl_nil (qone ⟨(by exact st_nil), ?_⟩)
      ((apply dw_pure; (· exact rfl); (· exact rfl); (· (intro G; exact looked))); (apply dw_pure; (· exact rfl); (· exact rfl); (· (intro G; exact looked))); (apply dw_pure; (· exact rfl); (· exact rfl); (· (intro G; exact looked))); (apply dw_pure; (· exact rfl); (· exact rfl); (· (intro G; exact looked))); (apply dw_pure; (· exact rfl); (· exact rfl); (· (intro G; exact looked))); (apply dw_pure; (· exact rfl); (· exact rfl); (· (intro G; exact looked))); (apply dw_pure; (· exact rfl); (· exact rfl); (· (intro G; exact looked))); (apply dw_pure; (· exact rfl); (· exact rfl); (· (intro G; exact looked))); (apply dw_pure; (· exact rfl); (· exact rfl); (· (intro G; (first | (refine step_wanted rfl rfl ?_; (apply s_indexAddr (j := k % 12) (o' := k % 12); (· exact rfl); (· exact rfl); (· omega); (· omega); (· omega); (· exact rfl))) | skip); exact looked))); (apply dw_look; (· exact rfl); (· exact rfl); (· (exact looked))); skip)
      refine dw_do rfl rfl ?_ dw_stop
      refine step_wanted rfl rfl ?_
      refine s_call rfl (none_law T) rfl ?_
      rintro _ _ ⟨e_, rfl⟩
      obtain rfl := e_.symm
      refine wpl_nil (qone ⟨(by refine st_past (by kernel_rfl) ?_; exact st_nil), ?_⟩)
      ((apply dw_pure; (· exact rfl); (· exact rfl); (· (intro G; exact looked))); (apply dw_pure; (· exact rfl); (· exact rfl); (· (intro G; exact looked))); refine dw_nil ?_; skip)
      refine walk ?_
      exact ⟨(k + 1, n), asided, agreed, Ent.auto, ⟨by omega, hn⟩, by simp only; omega⟩
  · refine walk ?_
    (refine s_build (cs := [.int .i64 0, .int .i64 9223372036854775807, .slice none 0 0]) ?_ rfl ?_; (· kernel_rfl))
    refine walk ?_
    (refine s_build (cs := [.int .i64 0, .int .i64 1, .slice none 0 0]) ?_ rfl ?_; (· kernel_rfl))
    refine walk ?_
    (refine s_build (cs := [.int .i64 3, .int .i64 0, .slice none 0 0]) ?_ rfl ?_; (· kernel_rfl))
    refine walk ?_
    (refine s_build (cs := [.int .i64 0, .int .i64 (-9223372036854775808), .slice none 0 0]) ?_ rfl ?_; (· kernel_rfl))
    refine walk ?_
    refine s_buildSlice (cs := actsC [⟨0, 9223372036854775807, .slice none 0 0, []⟩, ⟨0, 1, .slice none 0 0, []⟩, ⟨3, 0, .slice none 0 0, []⟩, ⟨0, -9223372036854775808, .slice none 0 0, []⟩]) rfl ?_ rfl ?_
    · kernel_rfl
    intro bz
    refine s_call rfl (plays_law (l := [⟨0, 9223372036854775807, .slice none 0 0, []⟩, ⟨0, 1, .slice none 0 0, []⟩, ⟨3, 0, .slice none 0 0, []⟩, ⟨0, -9223372036854775808, .slice none 0 0, []⟩]) T (Rd.blk0 (e := 48) rfl (by simp [maxLen])) (fun a ha => ?_) (by omega)) rfl ?_
    · simp only [List.mem_cons, List.not_mem_nil, or_false] at ha
      rcases ha with rfl | rfl | rfl | rfl <;> exact ⟨Rd.nil, by simp⟩
    rintro _ _ ⟨e_, rfl⟩
    obtain rfl := e_.symm
    refine walk ?_
    refine s_call rfl (works_spec T) rfl ?_
    rintro _ _ ⟨e_, rfl⟩
    obtain rfl := e_.symm
    refine walk ?_
    (first | (apply retRD1 (G := H) (.inr rfl) rfl; (· first | (refine rv_tmp (v := .bool _) rfl) | exact rv_tmp rfl); (· exact Ent.auto)) | (apply retRD1 (G := H) (.inl rfl) rfl; (· first | (refine rv_tmp (v := .bool _) rfl) | exact rv_tmp rfl); (· exact Ent.auto)))
    exact ⟨Ent.refl _, rfl⟩
end
end Go.Proofs.YtipbcccjhaommaaDoor
