/- The closed statement of notes. No condition. -/
import Derived.Test.YtofgpppnknpblaaGreatDoorNzLaw26a
import Derived.Test.YtofgpppnknpblaaGreatDoorNzLaw26b
import Derived.Test.YtofgpppnknpblaaGreatDoorNzLaw26c
import Derived.Test.YtofgpppnknpblaaGreatDoorNzLaw26d
import Derived.Test.YtofgpppnknpblaaGreatDoorSL4
namespace Go.Proofs.YtofgpppnknpblaaGreatDoor
open Go Go.SL
set_option linter.unusedSimpArgs false
set_option linter.unusedVariables false
set_option maxRecDepth 10000
set_option maxHeartbeats 8000000
def txts26 : List (List UInt8) := [[],
  [102, 108, 97, 103],
  [102, 108, 97, 103, 32, 112],
  [102, 108, 97, 103, 32, 112, 48, 49],
  [102, 108, 97, 103, 32, 112, 45, 49],
  [102, 108, 97, 103, 32, 112, 49, 32],
  [70, 108, 97, 103, 32, 112, 49],
  [102, 108, 97, 103, 32, 32, 112, 49],
  [102, 108, 97, 103, 32, 109, 49],
  [98, 111, 114, 110, 32, 103, 49, 32, 109, 48, 32, 120, 50],
  [98, 111, 114, 110, 32, 103, 49, 32, 112, 48, 32, 120, 50],
  [115, 116, 97, 114, 116, 32, 112, 49, 32, 109, 50, 32, 120, 50],
  [100, 105, 115, 112, 97, 116, 99, 104, 32, 103, 57, 50, 50, 51, 51, 55, 50, 48, 51, 54, 56, 53, 52, 55, 55, 53, 56, 48, 55, 32, 112, 48, 32, 109, 48, 32, 120, 48],
  [100, 105, 115, 112, 97, 116, 99, 104, 32, 103, 57, 50, 50, 51, 51, 55, 50, 48, 51, 54, 56, 53, 52, 55, 55, 53, 56, 48, 56, 32, 112, 48, 32, 109, 48, 32, 120, 48],
  [114, 101, 116, 97, 107, 101, 32, 112, 49, 56, 52, 52, 54, 55, 52, 52, 48, 55, 51, 55, 48, 57, 53, 53, 49, 54, 49, 55],
  [108, 111, 115, 116, 32, 103, 49, 32, 109, 50, 32, 120, 51]]
theorem has_le (k : Int) : (hasOf k).length ≤ 4 := by
  unfold hasOf
  split
  · by_cases h : k.toNat < 17
    · have : ∀ j, j < 17 → (hasK j).length ≤ 4 := by decide
      exact this _ h
    · rw [hasK_big (by omega)]; simp
  · simp
theorem nvs_push (M : List Nt) (n : Nt) : nvs M ++ nv n = nvs (M ++ [n]) := by
  rw [nvs_app]; simp [nvs]
theorem rowsN_push (R : List NRow) (a : NRow) : rowsN R ++ [.slice a.ao a.l.length a.cap] = rowsN (R ++ [a]) := by simp [rowsN]
attribute [local irreducible] WP WPL QSeq QBlk QRet Does Cell Cells Rd Mine Ent Aside RV Yield IterAt newN textN hasOf
section
variable {B : World} {F H : HProp}
theorem row_part {ao : Option Addr} {cap : Nat} {M : List Nt} {h : Nat} {v : Value} (hv : v = .slice ao M.length cap) (rd : Rd B H 5 v M.length (nvs M)) (hh : h ≤ M.length) (hc : M.length ≤ cap) : Rd B H 5 (.slice ao h cap) (M.take h).length (nvs (M.take h)) := by
  subst hv
  have e : (M.take h).length = h := by rw [List.length_take]; omega
  rw [e, ← nvs_take M h hh]
  exact Rd.sliceH h rd hh
theorem note_cells {a : NRow} {X : HProp} (rd : Rd B X 5 (.slice a.ao a.l.length a.cap) a.l.length (nvs a.l)) (h : 0 < a.l.length) : ∃ b o, a.ao = some ⟨b, o, none⟩ ∧ Cells B X b o (nv (a.l[0]'h)) := by
  obtain ⟨ao, cap, l⟩ := a
  cases l with
  | nil => simp at h
  | cons y t =>
    unfold Rd at rd
    obtain ⟨ao', cap', hv, hl, _, hc⟩ := rd
    cases hv
    rcases hc with hc | ⟨b, o, e, hc⟩
    · simp [nvs] at hc
    · refine ⟨b, o, e, ?_⟩
      have h5 := hc.take 5
      have e5 : (nvs (y :: t)).take 5 = nv y := by simp [nvs]
      rw [e5] at h5
      exact h5
theorem known_law (T : Tab B) (L : LibOk B) : Does Tryz.prog B 3 [] H fun r H' => H' = H ∧ r = .bool true := by
  refine Does.frame0 ?_
  refine fn_intro 240 Tryz.func3 rfl rfl rfl ?_
  refine walk ?_
  refine wp_loopF (α := Nat × Nat) [0, 1, 2, 3, 4, 5, 6, 7, 8, 9, 10, 11, 12, 15, 16, 17, 18, 19, 20, 21, 22, 23, 24, 25, 26, 27, 28, 29, 30, 31, 32, 33, 34, 35, 36, 37, 38, 39, 40, 41, 42, 43, 44, 45, 46, 47, 48, 49, 50, 51, 52, 53, 54, 55, 56, 57, 58, 59, 60, 61, 62, 63, 64, 65, 66, 67, 68, 69, 70, 71, 72, 73, 74, 75, 76, 77, 78, 79, 80, 81, 82, 83, 84, 85, 86, 87, 88, 89, 90, 91, 92, 93, 94, 95, 96, 97, 98, 99, 100, 101, 102, 103, 104, 105, 106, 107, 108, 109, 110, 111, 112, 113, 114, 115, 116, 117, 118, 119, 120, 121, 122, 123, 124, 125, 126, 127, 128, 129, 130, 131, 132, 133, 134, 135, 136, 137, 138, 139, 140, 141, 142, 143, 144, 145, 146, 147, 148, 149, 150, 151, 152, 153, 154, 155, 156, 157, 158, 159, 160, 161, 162, 163, 164, 165, 166, 167, 168, 169, 170, 171, 172, 173, 174, 175, 176, 177, 178, 179, 180, 181, 182, 183, 184, 185, 186, 187, 188, 189, 190, 191, 192, 193, 194, 195, 196, 197, 198, 199, 200, 201, 202, 203, 204, 205, 206, 207, 208, 209, 210, 211, 212, 213, 214] (fun x => [(2, .int .i64 x.1), (1, .int .i64 x.2)]) (fun _ => H) (fun x => x.1 ≤ 120 ∧ x.2 < 100003) (fun x => 120 - x.1) (0, 1) agreed (Ent.refl _) ⟨by simp, by simp⟩ ?_
  rintro ⟨n, k0⟩ f0 ⟨hn, hk0⟩
  simp only at hn hk0
  simp only [putAll]
  by_cases hn120 : n < 120
  · refine walk ?_
    refine wp_loopF (α := Nat × Nat × List NRow × Value × HProp) [1, 3, 4, 5, 6, 7, 8, 19, 20, 21, 22, 23, 24, 25, 26, 27, 28, 29, 30, 31, 32, 33, 34, 35, 36, 37, 38, 39, 40, 41, 42, 43, 44, 45, 46, 47, 48, 49, 50, 51, 52, 53, 54, 55, 56, 57, 58, 59, 60, 61, 62, 63, 64, 65, 66, 67, 68, 69, 70, 71, 72, 73, 74, 75, 76, 77, 78, 79, 80, 81, 82, 83, 84, 85, 86, 87, 88, 89, 90] (fun x => [(4, .int .i64 x.1), (1, .int .i64 x.2.1), (3, x.2.2.2.1)])
      (fun x => Mine 23 1 x.2.2.2.1 x.2.2.1.length (rowsN x.2.2.1) + (x.2.2.2.2 + H))
      (fun x => x.1 ≤ 5 ∧ x.2.1 < 100003 ∧ x.2.2.1.length = x.1 ∧ ∀ a ∈ x.2.2.1, Rd B x.2.2.2.2 5 (.slice a.ao a.l.length a.cap) a.l.length (nvs a.l) ∧ 0 < a.l.length ∧ ∀ y ∈ a.l, nsOk y)
      (fun x => 5 - x.1) (0, k0, [], .slice none 0 0, emp) agreed ?_ ⟨by simp, hk0, rfl, by simp⟩ ?_
    · show Ent _ (Mine 23 1 (.slice none 0 0) 0 [] + (emp + H))
      rw [Mine.nil, HProp.emp_add, HProp.emp_add]
      exact Ent.refl _
    rintro ⟨i, k1, R, vl, X⟩ f1 ⟨hi, hk1, hRl, hR⟩
    simp only at hi hk1 hRl hR
    simp only [putAll]
    by_cases hi5 : i < 5
    · refine walk ?_
      refine wp_loopF (α := Nat × Nat × List Nt × Value) [1, 5, 6, 7, 8, 23, 24, 25, 26, 27, 28, 29, 30, 31, 32, 33, 34, 35, 36, 37, 38, 39, 40, 41, 42, 43, 44, 45, 46, 47, 48, 49, 50, 51, 52, 53, 54, 55, 56, 57, 58, 59, 60, 61, 62, 63, 64, 65, 66, 67, 68, 69, 70, 71, 72, 73, 74, 75, 76, 77, 78, 79, 80, 81, 82] (fun x => [(6, .int .i64 x.1), (1, .int .i64 x.2.1), (5, x.2.2.2)])
        (fun x => Mine 31 5 x.2.2.2 x.2.2.1.length (nvs x.2.2.1) + (Mine 23 1 vl R.length (rowsN R) + (X + H)))
        (fun x => x.1 ≤ 4 ∧ x.2.1 < 100003 ∧ x.2.2.1.length = x.1 ∧ ∀ y ∈ x.2.2.1, nsOk y)
        (fun x => 4 - x.1) (0, k1, [], .slice none 0 0) agreed ?_ ⟨by simp, hk1, rfl, by simp⟩ ?_
      · show Ent _ (Mine 31 5 (.slice none 0 0) 0 [] + (Mine 23 1 vl R.length (rowsN R) + (X + H)))
        rw [Mine.nil, HProp.emp_add]
        exact Ent.refl _
      rintro ⟨m, k, M, vr⟩ f2 ⟨hm, hk, hMl, hM⟩
      simp only at hm hk hMl hM
      simp only [putAll]
      by_cases hm4 : m < 4
      · obtain ⟨h, hh⟩ : ∃ h, (hasOf (1 + ((k : Nat) : Int) % 16)).length = h := ⟨_, rfl⟩
        have hle : h ≤ 4 := by rw [← hh]; exact has_le _
        obtain ⟨ll, hll⟩ : ∃ ll, ([((k : Nat) : Int) % 5, ((k : Nat) : Int) / 5 % 3, ((k : Nat) : Int) / 15 % 4, ((k : Nat) : Int) / 60 % 3] : List Int).take h = ll := ⟨_, rfl⟩
        have hlen : ll.length = h := by rw [← hll, List.length_take]; simp only [List.length_cons, List.length_nil]; omega
        have hlb : ∀ x ∈ ll, x < 9223372036854775808 := by
          intro x hx
          rw [← hll] at hx
          have := List.mem_of_mem_take hx
          simp only [List.mem_cons, List.not_mem_nil, or_false] at this
          omega
        have hok := new_ok (k := 1 + ((k : Nat) : Int) % 16) hlb
        refine walk ?_
        refine s_buildInts (cs := zs [((k : Nat) : Int) % 5, ((k : Nat) : Int) / 5 % 3, ((k : Nat) : Int) / 15 % 4, ((k : Nat) : Int) / 60 % 3]) rfl rfl rfl rfl rfl ?_
        intro bs
        refine walk ?_
        refine s_call rfl (rHas (k := 1 + ((k : Nat) : Int) % 16)) rfl ?_
        rintro _ _ ⟨e_, rfl⟩
        obtain rfl := e_.symm
        refine walk ?_
        refine s_slen rfl rfl ?_
        rw [hh]
        (apply s_sliceH (h := h); (· exact rfl); (· exact rfl); (· omega); (· omega); (· exact rfl))
        have hrd : Rd B (blk bs (zs [((k : Nat) : Int) % 5, ((k : Nat) : Int) / 5 % 3, ((k : Nat) : Int) / 15 % 4, ((k : Nat) : Int) / 60 % 3]) 3) 1 (.slice (some ⟨bs, 0, none⟩) h 4) ll.length (zs ll) := by
          have := Rd.sliceH (B := B) (H := blk bs (zs [((k : Nat) : Int) % 5, ((k : Nat) : Int) / 5 % 3, ((k : Nat) : Int) / 15 % 4, ((k : Nat) : Int) / 60 % 3]) 3) (sz := 1) (n := 4) (cap := 4) (ao := some ⟨bs, 0, none⟩) (cs := zs [((k : Nat) : Int) % 5, ((k : Nat) : Int) / 5 % 3, ((k : Nat) : Int) / 15 % 4, ((k : Nat) : Int) / 60 % 3]) h (Rd.blk0 (e := 3) rfl (by simp [maxLen])) hle
          rw [Nat.mul_one] at this
          rw [hlen, ← hll]
          simpa [zs, List.map_take] using this
        refine walk ?_
        refine s_call rfl (rNew (k := 1 + ((k : Nat) : Int) % 16) (hrd.ent InH.ent)) rfl ?_
        rintro _ _ ⟨e_, rfl⟩
        obtain rfl := e_.symm
        refine walk ?_
        obtain ⟨nt, hnt⟩ : ∃ nt, (newN (1 + ((k : Nat) : Int) % 16) ll).1 = nt := ⟨_, rfl⟩
        rw [hnt] at hok ⊢
        refine walk ?_
        refine s_alloc rfl ?_
        intro bx
        refine walk ?_
        refine s_storeV (vs := nv nt) rfl rfl rfl rfl rfl ?_
        by_cases hz : nt.kind = 0
        · by_cases hm0 : 0 < m
          · obtain ⟨y, hy⟩ : ∃ y : Nt, y = ⟨15, -1, ((k : Nat) : Int) % 7, -1, -1⟩ := ⟨_, rfl⟩
            have hMy : ∀ z ∈ M ++ [y], nsOk z := by
              intro z hz
              rcases List.mem_append.1 hz with h | h
              · exact hM z h
              · rw [List.mem_singleton.1 h, hy]
                exact small_ok (by simp only; omega)
            refine walk ?_
            (refine s_build (cs := nv ⟨15, -1, ((k : Nat) : Int) % 7, -1, -1⟩) ?_ rfl ?_; (· kernel_rfl))
            refine walk ?_
            refine s_storeV (vs := nv ⟨15, -1, ((k : Nat) : Int) % 7, -1, -1⟩) rfl rfl rfl rfl rfl ?_
            rw [← hy]
            clear hy
            refine walk ?_
            (refine s_build (cs := nv y) ?_ rfl ?_; (· kernel_rfl))
            refine s_buildSlice (cs := nv y) rfl ?_ rfl ?_
            · kernel_rfl
            intro bn
            refine walk ?_
            refine s_append (v := vr) rfl rfl (Rd.blk0 (m := 1) (sz := 5) (e := 31) rfl (by simp [maxLen])) rfl rfl ?_ rfl ?_
            · simp only [maxLen]; omega
            intro vr'
            rw [nvs_push, show M.length + 1 = (M ++ [y]).length by simp]
            refine walk ?_
            exact ⟨(m + 1, (k * 31 + 7 * m + 11) % 100003, M ++ [y], vr'), asided, agreed, Ent.auto, ⟨by omega, Nat.mod_lt _ (by omega), by simp only [List.length_append, List.length_cons, List.length_nil]; omega, hMy⟩, by simp only; omega⟩
          · obtain ⟨y, hy⟩ : ∃ y : Nt, y = nt := ⟨_, rfl⟩
            have hMy : ∀ z ∈ M ++ [y], nsOk z := by
              intro z hz
              rcases List.mem_append.1 hz with h | h
              · exact hM z h
              · rw [List.mem_singleton.1 h, hy]; exact hok
            rw [← hy] at hz ⊢
            clear hy
            refine walk ?_
            (refine s_build (cs := nv y) ?_ rfl ?_; (· kernel_rfl))
            refine s_buildSlice (cs := nv y) rfl ?_ rfl ?_
            · kernel_rfl
            intro bn
            refine walk ?_
            refine s_append (v := vr) rfl rfl (Rd.blk0 (m := 1) (sz := 5) (e := 31) rfl (by simp [maxLen])) rfl rfl ?_ rfl ?_
            · simp only [maxLen]; omega
            intro vr'
            rw [nvs_push, show M.length + 1 = (M ++ [y]).length by simp]
            refine walk ?_
            exact ⟨(m + 1, (k * 31 + 7 * m + 11) % 100003, M ++ [y], vr'), asided, agreed, Ent.auto, ⟨by omega, Nat.mod_lt _ (by omega), by simp only [List.length_append, List.length_cons, List.length_nil]; omega, hMy⟩, by simp only; omega⟩
        · obtain ⟨y, hy⟩ : ∃ y : Nt, y = nt := ⟨_, rfl⟩
          have hMy : ∀ z ∈ M ++ [y], nsOk z := by
            intro z hz
            rcases List.mem_append.1 hz with h | h
            · exact hM z h
            · rw [List.mem_singleton.1 h, hy]; exact hok
          rw [← hy] at hz ⊢
          clear hy
          refine walk ?_
          (refine s_build (cs := nv y) ?_ rfl ?_; (· kernel_rfl))
          refine s_buildSlice (cs := nv y) rfl ?_ rfl ?_
          · kernel_rfl
          intro bn
          refine walk ?_
          refine s_append (v := vr) rfl rfl (Rd.blk0 (m := 1) (sz := 5) (e := 31) rfl (by simp [maxLen])) rfl rfl ?_ rfl ?_
          · simp only [maxLen]; omega
          intro vr'
          rw [nvs_push, show M.length + 1 = (M ++ [y]).length by simp]
          refine walk ?_
          exact ⟨(m + 1, (k * 31 + 7 * m + 11) % 100003, M ++ [y], vr'), asided, agreed, Ent.auto, ⟨by omega, Nat.mod_lt _ (by omega), by simp only [List.length_append, List.length_cons, List.length_nil]; omega, hMy⟩, by simp only; omega⟩
      · have hM4 : M.length = 4 := by omega
        refine WP.shape ?_
        rintro ao cap rfl hl1 hl2 hl3
        refine WP.rd fun rdr => ?_
        have el : (M.take (1 + k % 4)).length = 1 + k % 4 := by rw [List.length_take]; omega
        have hrow := row_part (h := 1 + k % 4) rfl rdr (by omega) hl2
        refine walk ?_
        (apply s_sliceH (h := 1 + k % 4); (· exact rfl); (· exact rfl); (· omega); (· omega); (· exact rfl))
        refine walk ?_
        refine s_buildInts (cs := [.slice ao (1 + k % 4) cap]) rfl rfl rfl rfl rfl ?_
        intro bq
        refine walk ?_
        refine s_append (v := vl) rfl rfl (Rd.blk0 (m := 1) (e := 23) rfl (by simp [maxLen])) rfl rfl ?_ rfl ?_
        · simp only [maxLen]; omega
        intro vl'
        obtain ⟨a, ha⟩ : ∃ a : NRow, a = ⟨ao, cap, M.take (1 + k % 4)⟩ := ⟨_, rfl⟩
        have hal : a.l.length = 1 + k % 4 := by rw [ha]; exact el
        have hao : a.ao = ao := by rw [ha]
        have hac : a.cap = cap := by rw [ha]
        have hpush : rowsN R ++ [Value.slice ao (1 + k % 4) cap] = rowsN (R ++ [a]) := by rw [← rowsN_push, hal, hao, hac]
        have hgood : ∀ z ∈ R ++ [a], Rd B (Mine 31 5 (.slice ao M.length cap) M.length (nvs M) + X) 5 (.slice z.ao z.l.length z.cap) z.l.length (nvs z.l) ∧ 0 < z.l.length ∧ ∀ y ∈ z.l, nsOk y := by
          intro z hz
          rcases List.mem_append.1 hz with h | h
          · exact ⟨(hR z h).1.ent InH.ent, (hR z h).2⟩
          · rw [List.mem_singleton.1 h]
            refine ⟨?_, by omega, ?_⟩
            · rw [hal, hao, hac]
              have e : a.l = M.take (1 + k % 4) := by rw [ha]
              rw [e]
              rw [el] at hrow
              exact hrow.ent InH.ent
            · intro y hy
              have e : a.l = M.take (1 + k % 4) := by rw [ha]
              rw [e] at hy
              exact hM y (List.mem_of_mem_take hy)
        rw [hpush, show R.length + 1 = (R ++ [a]).length by simp]
        clear hpush ha
        refine walk ?_
        exact ⟨(i + 1, k, R ++ [a], vl', Mine 31 5 (.slice ao M.length cap) M.length (nvs M) + X), asided, agreed, Ent.auto, ⟨by omega, hk, by simp only [List.length_append, List.length_cons, List.length_nil]; omega, hgood⟩, by simp only; omega⟩
    · have hR5 : R.length = 5 := by omega
      refine WP.shape ?_
      rintro aR capR rfl hl1 hl2 hl3
      refine WP.rd fun rdR => ?_
      have rdR0 := rdR
      unfold Rd at rdR
      obtain ⟨aR', capR', hvR, hlR, _, hcR⟩ := rdR
      cases hvR
      obtain ⟨bR, oR, rfl, hcs⟩ := Rd.addr (k := 0) (by rw [hlR]) hcR (by omega)
      obtain ⟨b0, o0, e0, hc0⟩ := note_cells (hR R[0] (List.getElem_mem _)).1 (hR R[0] (List.getElem_mem _)).2.1
      obtain ⟨b1, o1, e1, hc1⟩ := note_cells (hR R[1] (List.getElem_mem _)).1 (hR R[1] (List.getElem_mem _)).2.1
      have q0 := rowsN_cell hcs (j := 0) (by omega)
      have q1 := rowsN_cell hcs (j := 1) (by omega)
      rw [e0] at q0
      rw [e1] at q1
      have p0 := (hR R[0] (List.getElem_mem _)).2.1
      have p1 := (hR R[1] (List.getElem_mem _)).2.1
      obtain ⟨ya, hya⟩ : ∃ y, R[0].l[0]'p0 = y := ⟨_, rfl⟩
      obtain ⟨yb, hyb⟩ : ∃ y, R[1].l[0]'p1 = y := ⟨_, rfl⟩
      have oka : nsOk ya := by rw [← hya]; exact (hR R[0] (List.getElem_mem _)).2.2 _ (List.getElem_mem _)
      have okb : nsOk yb := by rw [← hyb]; exact (hR R[1] (List.getElem_mem _)).2.2 _ (List.getElem_mem _)
      rw [hya] at hc0
      rw [hyb] at hc1
      obtain ⟨n0, hn0⟩ : ∃ z, R[0].l.length = z := ⟨_, rfl⟩
      obtain ⟨n1, hn1⟩ : ∃ z, R[1].l.length = z := ⟨_, rfl⟩
      rw [hn0] at q0 p0
      rw [hn1] at q1 p1
      clear hya hyb
      refine walk ?_
      refine wp_cut_here (α := Nat × Nat) [9, 10, 91, 92, 93, 94, 95, 96, 97, 98, 99, 100] (fun z => [(9, .pointer (some ⟨z.1, 0, none⟩)), (10, .pointer (some ⟨z.2, 0, none⟩))])
        (fun z => blk z.1 (nv ya) 31 + (blk z.2 (nv yb) 31 + (Mine 23 1 (.slice (some ⟨bR, oR, none⟩) R.length capR) R.length (rowsN R) + (X + H)))) (fun _ => True) ?_ ?_
      · skip
        (refine wp_draw [10, 11, 12, 13] (.look 0 (.look 1 (.look 2 (.look 3 (.look 4 (.look 5 (.look 6 (.look 7 (.look 8 (.look 9 (.act 10 (.act 11 (.act 12 (.act 13 .nil .stop) .stop) .stop) (.act 11 (.act 10 (.act 12 (.act 13 .nil .stop) .stop) .stop) .stop)))))))))))) (by kernel_rfl) ?_; (apply dw_pure; (· exact rfl); (· exact rfl); (· (intro G; exact looked))); (apply dw_pure; (· exact rfl); (· exact rfl); (· (intro G; (apply s_indexAddr (j := 0) (o' := oR); (· exact rfl); (· exact rfl); (· omega); (· omega); (· omega); (· exact rfl)); exact looked))); (apply dw_look; (· exact rfl); (· exact rfl); (· (exact looked))); (apply dw_pure; (· exact rfl); (· exact rfl); (· (intro G; (apply s_indexAddr (j := 0) (o' := o0); (· exact rfl); (· exact rfl); (· omega); (· omega); (· omega); (· exact rfl)); exact looked))); (apply dw_look; (· exact rfl); (· exact rfl); (· (exact looked))); (apply dw_pure; (· exact rfl); (· exact rfl); (· (intro G; exact looked))); (apply dw_pure; (· exact rfl); (· exact rfl); (· (intro G; (apply s_indexAddr (j := 1) (o' := oR + 1); (· exact rfl); (· exact rfl); (· omega); (· omega); (· omega); (· exact rfl)); exact looked))); (apply dw_look; (· exact rfl); (· exact rfl); (· (exact looked))); (apply dw_pure; (· exact rfl); (· exact rfl); (· (intro G; (apply s_indexAddr (j := 0) (o' := o1); (· exact rfl); (· exact rfl); (· omega); (· omega); (· omega); (· exact rfl)); exact looked))); (apply dw_look; (· exact rfl); (· exact rfl); (· (exact looked))); skip)
        refine dw_do rfl rfl ?_ (dw_do rfl rfl ?_ dw_stop)
        · skip
          refine s_alloc rfl ?_
          intro bxa
          refine wpl_nil (qone ⟨(by (refine st_again ?_ ?_; (· exact looked)); (refine st_again ?_ ?_; (· exact looked)); (refine st_again ?_ ?_; (· exact looked)); (refine st_again ?_ ?_; (· exact looked)); exact st_nil), ?_⟩)
          (skip)
          refine dw_do rfl rfl ?_ dw_stop
          refine s_alloc rfl ?_
          intro bxb
          refine wpl_nil (qone ⟨(by (refine st_again ?_ ?_; (· exact looked)); (refine st_again ?_ ?_; (· exact looked)); (refine st_again ?_ ?_; (· exact looked)); (refine st_again ?_ ?_; (· exact looked)); exact st_nil), ?_⟩)
          (skip)
          refine dw_do0 rfl rfl ?_ dw_stop
          refine s_storeV (vs := nv ya) rfl rfl rfl rfl rfl ?_
          refine wpl_nil (qone0 ⟨(by (refine st_again ?_ ?_; (· exact looked)); (refine st_again ?_ ?_; (· exact looked)); refine st_past (by kernel_rfl) ?_; refine st_past (by kernel_rfl) ?_; exact st_nil), ?_⟩)
          (skip)
          refine dw_do0 rfl rfl ?_ dw_stop
          refine s_storeV (vs := nv yb) rfl rfl rfl rfl rfl ?_
          refine wpl_nil (qone0 ⟨(by refine st_past (by kernel_rfl) ?_; refine st_past (by kernel_rfl) ?_; refine st_past (by kernel_rfl) ?_; refine st_past (by kernel_rfl) ?_; exact st_nil), ?_⟩)
          (refine dw_nil ?_; skip)
          refine walk ?_
          exact ⟨(bxa, bxb), asided, agreed, Ent.auto, trivial⟩
        · skip
          refine s_alloc rfl ?_
          intro bxb
          refine wpl_nil (qone ⟨(by (refine st_again ?_ ?_; (· exact looked)); (refine st_again ?_ ?_; (· exact looked)); (refine st_again ?_ ?_; (· exact looked)); (refine st_again ?_ ?_; (· exact looked)); exact st_nil), ?_⟩)
          (skip)
          refine dw_do rfl rfl ?_ dw_stop
          refine s_alloc rfl ?_
          intro bxa
          refine wpl_nil (qone ⟨(by (refine st_again ?_ ?_; (· exact looked)); (refine st_again ?_ ?_; (· exact looked)); (refine st_again ?_ ?_; (· exact looked)); (refine st_again ?_ ?_; (· exact looked)); exact st_nil), ?_⟩)
          (skip)
          refine dw_do0 rfl rfl ?_ dw_stop
          refine s_storeV (vs := nv ya) rfl rfl rfl rfl rfl ?_
          refine wpl_nil (qone0 ⟨(by (refine st_again ?_ ?_; (· exact looked)); (refine st_again ?_ ?_; (· exact looked)); refine st_past (by kernel_rfl) ?_; refine st_past (by kernel_rfl) ?_; exact st_nil), ?_⟩)
          (skip)
          refine dw_do0 rfl rfl ?_ dw_stop
          refine s_storeV (vs := nv yb) rfl rfl rfl rfl rfl ?_
          refine wpl_nil (qone0 ⟨(by refine st_past (by kernel_rfl) ?_; refine st_past (by kernel_rfl) ?_; refine st_past (by kernel_rfl) ?_; refine st_past (by kernel_rfl) ?_; exact st_nil), ?_⟩)
          (refine dw_nil ?_; skip)
          refine walk ?_
          exact ⟨(bxa, bxb), asided, agreed, Ent.auto, trivial⟩
      rintro ⟨bxa, bxb⟩ f3 _
      simp only [putAll]
      refine walk ?_
      refine s_alloc rfl ?_
      intro bo
      refine walk ?_
      refine s_storeV (vs := nv ya) rfl rfl rfl rfl rfl ?_
      refine walkB ?_
      refine wp_cut_here (α := Nt) [104, 105, 106, 107, 108, 109, 110, 111, 112, 113, 114, 115, 116, 117, 118, 119, 120, 121, 122, 123, 124, 125, 126, 127, 128, 129, 130, 131] (fun z => [])
        (fun z => blk bo (nv z) 31 + (blk bxa (nv ya) 31 + (blk bxb (nv yb) 31 + (Mine 23 1 (.slice (some ⟨bR, oR, none⟩) R.length capR) R.length (rowsN R) + (X + H))))) (fun z => nsOk z) ?_ ?_
      · have h1 : ya.g < 9223372036854775808 := oka 103
        have h2 : ya.p < 9223372036854775808 := oka 112
        have h3 : ya.m < 9223372036854775808 := oka 109
        have h4 : ya.x < 9223372036854775808 := oka 120
        rcases (show ((n : Nat) : Int) % 5 = 0 ∨ ((n : Nat) : Int) % 5 = 1 ∨ ((n : Nat) : Int) % 5 = 2 ∨ ((n : Nat) : Int) % 5 = 3 ∨ ((n : Nat) : Int) % 5 = 4 by omega) with h | h | h | h | h
        · refine walk ?_
          refine s_store (v := .int .i64 (((k1 : Nat) : Int) % 3 - 2)) (cs' := nv { ya with g := ((k1 : Nat) : Int) % 3 - 2 }) rfl rfl rfl (by simp) rfl ?_
          refine walk ?_
          exact ⟨{ ya with g := ((k1 : Nat) : Int) % 3 - 2 }, asided, agreed, Ent.auto, small_ok (by dsimp only; omega)⟩
        · refine walk ?_
          refine s_store (v := .int .i64 (((k1 : Nat) : Int) % 3 - 2)) (cs' := nv { ya with p := ((k1 : Nat) : Int) % 3 - 2 }) rfl rfl rfl (by simp) rfl ?_
          refine walk ?_
          exact ⟨{ ya with p := ((k1 : Nat) : Int) % 3 - 2 }, asided, agreed, Ent.auto, small_ok (by dsimp only; omega)⟩
        · refine walk ?_
          refine s_store (v := .int .i64 (((k1 : Nat) : Int) % 3 - 2)) (cs' := nv { ya with m := ((k1 : Nat) : Int) % 3 - 2 }) rfl rfl rfl (by simp) rfl ?_
          refine walk ?_
          exact ⟨{ ya with m := ((k1 : Nat) : Int) % 3 - 2 }, asided, agreed, Ent.auto, small_ok (by dsimp only; omega)⟩
        · refine walk ?_
          refine s_store (v := .int .i64 (((k1 : Nat) : Int) % 5 - 2)) (cs' := nv { ya with x := ((k1 : Nat) : Int) % 5 - 2 }) rfl rfl rfl (by simp) rfl ?_
          refine walk ?_
          exact ⟨{ ya with x := ((k1 : Nat) : Int) % 5 - 2 }, asided, agreed, Ent.auto, small_ok (by dsimp only; omega)⟩
        · refine walk ?_
          refine s_store (v := .int .i64 (((k1 : Nat) : Int) % 20 - 1)) (cs' := nv { ya with kind := ((k1 : Nat) : Int) % 20 - 1 }) rfl rfl rfl (by simp) rfl ?_
          refine walk ?_
          exact ⟨{ ya with kind := ((k1 : Nat) : Int) % 20 - 1 }, asided, agreed, Ent.auto, small_ok (by dsimp only; omega)⟩
      rintro odd f4 oko
      simp only [putAll]
      obtain ⟨len, hlen⟩ : ∃ z, (textN yb).length = z := ⟨_, rfl⟩
      have hlb := textN_len okb
      rw [hlen] at hlb
      obtain ⟨pr, hpr, hp0, hp1⟩ : ∃ pr : Int, ((len : Nat) : Int) * (((n : Nat) : Int) % 3) = pr ∧ 0 ≤ pr ∧ pr ≤ 2 * ((len : Nat) : Int) := by
        rcases (show ((n : Nat) : Int) % 3 = 0 ∨ ((n : Nat) : Int) % 3 = 1 ∨ ((n : Nat) : Int) % 3 = 2 by omega) with h | h | h <;> rw [h]
        · exact ⟨0, by omega, by omega, by omega⟩
        · exact ⟨(len : Int), by omega, by omega, by omega⟩
        · exact ⟨2 * (len : Int), by omega, by omega, by omega⟩
      have hprw : IntKind.i64.wrap (((len : Nat) : Int) * (((n : Nat) : Int) % 3)) = pr := by rw [hpr]; exact intI64 (by omega)
      have hrA : ∀ bt, Rd B (blk bt (zs [1, ((k1 : Nat) : Int) % 3, 2, ((k1 : Nat) : Int) % 4]) 3) 1 (.slice (some ⟨bt, 0, none⟩) (n % 5) 4) (([1, ((k1 : Nat) : Int) % 3, 2, ((k1 : Nat) : Int) % 4] : List Int).take (n % 5)).length (zs (([1, ((k1 : Nat) : Int) % 3, 2, ((k1 : Nat) : Int) % 4] : List Int).take (n % 5))) := by
        intro bt
        have := Rd.sliceH (B := B) (H := blk bt (zs [1, ((k1 : Nat) : Int) % 3, 2, ((k1 : Nat) : Int) % 4]) 3) (sz := 1) (n := 4) (cap := 4) (ao := some ⟨bt, 0, none⟩) (cs := zs [1, ((k1 : Nat) : Int) % 3, 2, ((k1 : Nat) : Int) % 4]) (n % 5) (Rd.blk0 (e := 3) rfl (by simp [maxLen])) (by omega)
        rw [Nat.mul_one] at this
        have e : (([1, ((k1 : Nat) : Int) % 3, 2, ((k1 : Nat) : Int) % 4] : List Int).take (n % 5)).length = n % 5 := by rw [List.length_take]; simp only [List.length_cons, List.length_nil]; omega
        rw [e]
        simpa [zs, List.map_take] using this
      have hslen : ((len : Nat) : Int) - pr / 7 = (((len - (pr / 7).toNat : Nat)) : Int) := by omega
      refine walk ?_
      refine s_call rfl (dNote (n := yb)) rfl ?_
      rintro _ _ ⟨e_, rfl⟩
      obtain rfl := e_.symm
      refine walk ?_
      refine s_call rfl (rText (n := yb) okb) rfl ?_
      rintro _ _ ⟨e_, rfl⟩
      obtain rfl := e_.symm
      refine walk ?_
      refine walk ?_
      (refine wp_draw [8, 12, 21, 22, 27, 33, 40, 57, 65, 71, 77] (.look 0 (.look 1 (.look 2 (.look 3 (.look 4 (.look 5 (.look 6 (.look 7 (.look 9 (.look 10 (.act 8 (.look 11 (.act 12 (.look 13 (.look 14 (.look 15 (.look 16 (.look 17 (.look 18 (.look 19 (.look 20 (.act 21 (.act 22 (.look 23 (.look 24 (.look 25 (.look 26 (.act 27 (.look 28 (.look 29 (.look 30 (.look 31 (.look 32 (.act 33 (.look 34 (.look 35 (.look 36 (.look 37 (.look 38 (.look 39 (.act 40 (.look 41 (.look 42 (.look 43 (.look 44 (.look 45 (.look 46 (.look 47 (.look 48 (.look 49 (.look 50 (.look 51 (.look 52 (.look 53 (.look 54 (.look 55 (.look 56 (.act 57 (.look 58 (.look 59 (.look 60 (.look 61 (.look 62 (.look 63 (.look 64 (.look 66 (.look 67 (.look 68 (.look 69 (.look 70 (.act 65 (.act 71 (.look 72 (.look 73 (.look 74 (.look 75 (.look 76 (.act 77 (.look 78 (.look 79 .nil)) .stop)))))) .stop) .stop))))))))))))) .stop))))))))))))))))) .stop))))))) .stop)))))) .stop))))) .stop) .stop))))))))) .stop)) .stop))))))))))) (by kernel_rfl) ?_; (apply dw_look; (· exact rfl); (· exact rfl); (· (exact looked))); (apply dw_pure; (· exact rfl); (· exact rfl); (· (intro G; exact looked))); (apply dw_pure; (· exact rfl); (· exact rfl); (· (intro G; exact looked))); (apply dw_pure; (· exact rfl); (· exact rfl); (· (intro G; exact looked))); (apply dw_pure; (· exact rfl); (· exact rfl); (· (intro G; exact looked))); (apply dw_pure; (· exact rfl); (· exact rfl); (· (intro G; exact looked))); (apply dw_pure; (· exact rfl); (· exact rfl); (· (intro G; exact looked))); (apply dw_pure; (· exact rfl); (· exact rfl); (· (intro G; exact looked))); (apply dw_pure; (· exact rfl); (· exact rfl); (· (intro G; exact looked))); (apply dw_pure; (· exact rfl); (· exact rfl); (· (intro G; exact looked))); skip)
      refine dw_do rfl rfl ?_ dw_stop
      refine s_buildInts (cs := zs [1, ((k1 : Nat) : Int) % 3, 2, ((k1 : Nat) : Int) % 4]) rfl rfl rfl rfl rfl ?_
      intro bt
      refine wpl_nil (qone ⟨(by (refine st_again ?_ ?_; (· exact looked)); exact st_nil), ?_⟩)
      ((apply dw_pure; (· exact rfl); (· exact rfl); (· (intro G; (apply s_sliceH (h := n % 5); (· exact rfl); (· exact rfl); (· omega); (· omega); (· exact rfl)); exact looked))); skip)
      refine dw_do rfl rfl ?_ dw_stop
      refine s_call rfl (tells_law T oka ((hrA bt).ent InH.ent)) rfl ?_
      rintro _ _ ⟨e_, rfl⟩
      obtain rfl := e_.symm
      refine wpl_nil (qone ⟨(by refine st_past (by kernel_rfl) ?_; exact st_nil), ?_⟩)
      ((apply dw_pure; (· exact rfl); (· exact rfl); (· (intro G; exact looked))); (apply dw_pure; (· exact rfl); (· exact rfl); (· (intro G; exact looked))); (apply dw_look; (· exact rfl); (· exact rfl); (· (exact looked))); (apply dw_pure; (· exact rfl); (· exact rfl); (· (intro G; exact looked))); (apply dw_pure; (· exact rfl); (· exact rfl); (· (intro G; exact looked))); (apply dw_pure; (· exact rfl); (· exact rfl); (· (intro G; exact looked))); (apply dw_pure; (· exact rfl); (· exact rfl); (· (intro G; exact looked))); (apply dw_pure; (· exact rfl); (· exact rfl); (· (intro G; exact looked))); skip)
      refine dw_do rfl rfl ?_ dw_stop
      refine step_wanted rfl rfl ?_
      refine s_buildInts (cs := zs [((k1 : Nat) : Int) % 3]) rfl rfl rfl rfl rfl ?_
      intro bu
      refine wpl_nil (qone ⟨(by (refine st_again ?_ ?_; (· exact looked)); refine st_past (by kernel_rfl) ?_; exact st_nil), ?_⟩)
      (skip)
      refine dw_do rfl rfl ?_ dw_stop
      refine step_wanted rfl rfl ?_
      refine s_call rfl (tells_law (l := [((k1 : Nat) : Int) % 3]) T oko (Rd.blk0 (e := 3) rfl (by simp [maxLen]))) rfl ?_
      rintro _ _ ⟨e_, rfl⟩
      obtain rfl := e_.symm
      refine wpl_nil (qone ⟨(by refine st_past (by kernel_rfl) ?_; refine st_past (by kernel_rfl) ?_; exact st_nil), ?_⟩)
      ((apply dw_pure; (· exact rfl); (· exact rfl); (· (intro G; exact looked))); (apply dw_pure; (· exact rfl); (· exact rfl); (· (intro G; exact looked))); (apply dw_pure; (· exact rfl); (· exact rfl); (· (intro G; exact looked))); (apply dw_pure; (· exact rfl); (· exact rfl); (· (intro G; exact looked))); skip)
      refine dw_do rfl rfl ?_ dw_stop
      refine step_wanted rfl rfl ?_
      refine s_call rfl (reads_law (s := textN yb) T L) rfl ?_
      rintro _ _ ⟨e_, rfl⟩
      obtain rfl := e_.symm
      refine wpl_nil (qone ⟨(by refine st_past (by kernel_rfl) ?_; refine st_past (by kernel_rfl) ?_; exact st_nil), ?_⟩)
      ((apply dw_pure; (· exact rfl); (· exact rfl); (· (intro G; exact looked))); (apply dw_pure; (· exact rfl); (· exact rfl); (· (intro G; exact looked))); (apply dw_pure; (· exact rfl); (· exact rfl); (· (intro G; exact looked))); (apply dw_pure; (· exact rfl); (· exact rfl); (· (intro G; exact looked))); (apply dw_pure; (· exact rfl); (· exact rfl); (· (intro G; (first | (refine step_wanted rfl rfl ?_; refine s_concat (l := textN yb) (m := [32]) (r := textN yb ++ [32]) rfl rfl (by simp only [List.length_cons, List.length_nil]; omega) rfl rfl ?_) | skip); exact looked))); skip)
      refine dw_do rfl rfl ?_ dw_stop
      refine step_wanted rfl rfl ?_
      refine s_call rfl (reads_law (s := textN yb ++ [32]) T L) rfl ?_
      rintro _ _ ⟨e_, rfl⟩
      obtain rfl := e_.symm
      refine wpl_nil (qone ⟨(by refine st_past (by kernel_rfl) ?_; refine st_past (by kernel_rfl) ?_; exact st_nil), ?_⟩)
      ((apply dw_pure; (· exact rfl); (· exact rfl); (· (intro G; exact looked))); (apply dw_pure; (· exact rfl); (· exact rfl); (· (intro G; exact looked))); (apply dw_pure; (· exact rfl); (· exact rfl); (· (intro G; exact looked))); (apply dw_look; (· exact rfl); (· exact rfl); (· (exact looked))); (apply dw_look; (· exact rfl); (· exact rfl); (· (exact looked))); (apply dw_pure; (· exact rfl); (· exact rfl); (· (intro G; exact looked))); skip)
      refine dw_do rfl rfl ?_ dw_stop
      refine step_wanted rfl rfl ?_
      refine s_call rfl (back_law (s := textN yb) T L oka oko) rfl ?_
      rintro _ _ ⟨e_, rfl⟩
      obtain rfl := e_.symm
      refine wpl_nil (qone ⟨(by refine st_past (by kernel_rfl) ?_; refine st_past (by kernel_rfl) ?_; refine st_past (by kernel_rfl) ?_; refine st_past (by kernel_rfl) ?_; exact st_nil), ?_⟩)
      ((apply dw_pure; (· exact rfl); (· exact rfl); (· (intro G; exact looked))); (apply dw_pure; (· exact rfl); (· exact rfl); (· (intro G; exact looked))); (apply dw_pure; (· exact rfl); (· exact rfl); (· (intro G; exact looked))); (apply dw_look; (· exact rfl); (· exact rfl); (· (exact looked))); (apply dw_look; (· exact rfl); (· exact rfl); (· (exact looked))); (apply dw_pure; (· exact rfl); (· exact rfl); (· (intro G; exact looked))); (apply dw_pure; (· exact rfl); (· exact rfl); (· (intro G; exact looked))); (apply dw_pure; (· exact rfl); (· exact rfl); (· (intro G; (first | (refine step_wanted rfl rfl ?_; refine s_slen rfl rfl ?_; rw [hlen]) | skip); exact looked))); (apply dw_pure; (· exact rfl); (· exact rfl); (· (intro G; exact looked))); (apply dw_pure; (· exact rfl); (· exact rfl); (· (intro G; (first | (refine step_wanted rfl rfl ?_; refine s_slen rfl rfl ?_; rw [hlen]) | skip); exact looked))); (apply dw_pure; (· exact rfl); (· exact rfl); (· (intro G; exact looked))); (apply dw_pure; (· exact rfl); (· exact rfl); (· (intro G; exact looked))); (apply dw_pure; (· exact rfl); (· exact rfl); (· (intro G; (first | (refine step_wanted rfl rfl ?_; refine s_mulw rfl rfl hprw rfl ?_) | skip); exact looked))); (apply dw_pure; (· exact rfl); (· exact rfl); (· (intro G; exact looked))); (apply dw_pure; (· exact rfl); (· exact rfl); (· (intro G; exact looked))); (apply dw_pure; (· exact rfl); (· exact rfl); (· (intro G; (first | (refine step_wanted rfl rfl ?_; refine s_sslice (l := textN yb) (a := 0) (b := len - (pr / 7).toNat) (r := (textN yb).take (len - (pr / 7).toNat)) rfl rfl ⟨.i64, by rw [← hslen]; rfl⟩ (Nat.zero_le _) (by omega) rfl rfl ?_) | skip); exact looked))); skip)
      refine dw_do rfl rfl ?_ dw_stop
      refine step_wanted rfl rfl ?_
      refine s_call rfl (back_law (s := (textN yb).take (len - (pr / 7).toNat)) T L oko okb) rfl ?_
      rintro _ _ ⟨e_, rfl⟩
      obtain rfl := e_.symm
      refine wpl_nil (qone ⟨(by refine st_past (by kernel_rfl) ?_; refine st_past (by kernel_rfl) ?_; refine st_past (by kernel_rfl) ?_; refine st_past (by kernel_rfl) ?_; refine st_past (by kernel_rfl) ?_; refine st_past (by kernel_rfl) ?_; exact st_nil), ?_⟩)
      ((apply dw_pure; (· exact rfl); (· exact rfl); (· (intro G; exact looked))); (apply dw_pure; (· exact rfl); (· exact rfl); (· (intro G; exact looked))); (apply dw_pure; (· exact rfl); (· exact rfl); (· (intro G; exact looked))); (apply dw_pure; (· exact rfl); (· exact rfl); (· (intro G; exact looked))); (apply dw_pure; (· exact rfl); (· exact rfl); (· (intro G; exact looked))); (apply dw_pure; (· exact rfl); (· exact rfl); (· (intro G; exact looked))); (apply dw_pure; (· exact rfl); (· exact rfl); (· (intro G; exact looked))); (apply dw_pure; (· exact rfl); (· exact rfl); (· (intro G; exact looked))); (apply dw_pure; (· exact rfl); (· exact rfl); (· (intro G; exact looked))); (apply dw_pure; (· exact rfl); (· exact rfl); (· (intro G; exact looked))); (apply dw_pure; (· exact rfl); (· exact rfl); (· (intro G; exact looked))); (apply dw_pure; (· exact rfl); (· exact rfl); (· (intro G; exact looked))); skip)
      refine dw_do rfl rfl ?_ dw_stop
      refine step_wanted rfl rfl ?_
      refine s_buildInts (cs := zs [1 + ((k1 : Nat) : Int) % 16, 2, 15]) rfl rfl rfl rfl rfl ?_
      intro bv
      refine wpl_nil (qone ⟨(by refine st_past (by kernel_rfl) ?_; refine st_past (by kernel_rfl) ?_; refine st_past (by kernel_rfl) ?_; refine st_past (by kernel_rfl) ?_; refine st_past (by kernel_rfl) ?_; refine st_past (by kernel_rfl) ?_; exact st_nil), ?_⟩)
      (skip)
      refine dw_do rfl rfl ?_ dw_stop
      refine step_wanted rfl rfl ?_
      refine s_call rfl (books_law (R := R) (K := [1 + ((k1 : Nat) : Int) % 16, 2, 15]) T (rdR0.ent InH.ent) (fun a h => (hR a h).1.ent InH.ent) (Rd.blk0 (e := 3) rfl (by simp [maxLen]))) rfl ?_
      rintro _ _ ⟨e_, rfl⟩
      obtain rfl := e_.symm
      refine wpl_nil (qone ⟨(by refine st_past (by kernel_rfl) ?_; refine st_past (by kernel_rfl) ?_; refine st_past (by kernel_rfl) ?_; refine st_past (by kernel_rfl) ?_; refine st_past (by kernel_rfl) ?_; refine st_past (by kernel_rfl) ?_; exact st_nil), ?_⟩)
      ((apply dw_pure; (· exact rfl); (· exact rfl); (· (intro G; exact looked))); (apply dw_pure; (· exact rfl); (· exact rfl); (· (intro G; exact looked))); (apply dw_pure; (· exact rfl); (· exact rfl); (· (intro G; exact looked))); (apply dw_look; (· exact rfl); (· exact rfl); (· (exact looked))); (apply dw_pure; (· exact rfl); (· exact rfl); (· (intro G; exact looked))); skip)
      refine dw_do rfl rfl ?_ dw_stop
      refine step_wanted rfl rfl ?_
      refine s_call rfl (none_law T) rfl ?_
      rintro _ _ ⟨e_, rfl⟩
      obtain rfl := e_.symm
      refine wpl_nil (qone ⟨(by refine st_past (by kernel_rfl) ?_; refine st_past (by kernel_rfl) ?_; refine st_past (by kernel_rfl) ?_; refine st_past (by kernel_rfl) ?_; refine st_past (by kernel_rfl) ?_; refine st_past (by kernel_rfl) ?_; refine st_past (by kernel_rfl) ?_; exact st_nil), ?_⟩)
      ((apply dw_pure; (· exact rfl); (· exact rfl); (· (intro G; exact looked))); (apply dw_pure; (· exact rfl); (· exact rfl); (· (intro G; exact looked))); refine dw_nil ?_; skip)
      refine walk ?_
      exact ⟨(n + 1, k1), asided, agreed, Ent.auto, ⟨by omega, hk1⟩, by simp only; omega⟩
  · refine walk ?_
    refine s_buildInts (cs := ss txts26) rfl rfl rfl rfl rfl ?_
    intro bt
    refine walk ?_
    refine wp_loopF (α := Nat) [0, 14, 216, 217, 218, 219, 220, 221, 222, 223, 224, 225, 226, 227, 228, 229, 230, 231, 232, 233, 234, 235, 236, 237, 238] (fun i => [(14, .int .i64 i)]) (fun _ => blk bt (ss txts26) 9 + H) (fun i => i ≤ 16) (fun i => 16 - i) 0 agreed (Ent.refl _) (by omega) ?_
    intro i f1 hi
    simp only [putAll]
    by_cases hi16 : i < 16
    · obtain ⟨x, hx⟩ : ∃ x, txts26[i]'(by exact hi16) = x := ⟨_, rfl⟩
      have qx : Cell B (blk bt (ss txts26) 9) bt i (str x) := by
        rw [← HProp.add_emp (blk bt (ss txts26) 9)]
        exact Cell.blk (by rw [ss_get _ _ (by exact hi16), hx])
      refine walk ?_
      refine s_call rfl (reads_law (s := x) T L) rfl ?_
      rintro _ _ ⟨e_, rfl⟩
      obtain rfl := e_.symm
      refine walk ?_
      (refine s_build (cs := nv zeroN) ?_ rfl ?_; (· kernel_rfl))
      refine walk ?_
      (refine s_build (cs := nv ⟨16, -1, ((i : Nat) : Int), -1, -1⟩) ?_ rfl ?_; (· kernel_rfl))
      refine walk ?_
      refine s_call rfl (back_law (s := x) (na := zeroN) (nb := ⟨16, -1, ((i : Nat) : Int), -1, -1⟩) T L (small_ok (by decide)) (small_ok (by simp only; omega))) rfl ?_
      rintro _ _ ⟨e_, rfl⟩
      obtain rfl := e_.symm
      refine walk ?_
      exact ⟨i + 1, asided, agreed, Ent.refl _, by omega, by omega⟩
    · refine walk ?_
      refine s_call rfl (works_spec T) rfl ?_
      rintro _ _ ⟨e_, rfl⟩
      obtain rfl := e_.symm
      refine walk ?_
      (first | (apply retRD1 (G := H) (.inr rfl) rfl; (· first | (refine rv_tmp (v := .bool _) rfl) | exact rv_tmp rfl); (· exact Ent.auto)) | (apply retRD1 (G := H) (.inl rfl) rfl; (· first | (refine rv_tmp (v := .bool _) rfl) | exact rv_tmp rfl); (· exact Ent.auto)))
      exact ⟨Ent.auto, rfl⟩
end
end Go.Proofs.YtofgpppnknpblaaGreatDoor
