/- Several numbers at a deque's end; a new deque; its numbers in a loop. No condition. -/
import Derived.Test.YtcnpcmdcbafaeaaDDq1
namespace Go.Proofs.Ytcnpcmdcbafaeaa
open Go Go.SL
set_option linter.unusedSimpArgs false
set_option linter.unusedVariables false
set_option maxRecDepth 10000
set_option maxHeartbeats 1000000
attribute [local irreducible] WP WPL QSeq QBlk QRet Does Cell Cells Rd Mine Ent Aside RV DqX DqAt

section
variable {B : World} {F H G : HProp} {p q : Nat} {b : Bk} {L S : List Int} {h t : Int} {x : DqS}
theorem layX {ao : Option Addr} {cap : Nat} {l : List Int} (hs : Rd B F 1 (.slice ao l.length cap) l.length (zs l)) (hc : l.length ≤ cap) :
    Does Try.prog B 11 [ptr p, .slice ao l.length cap] (DqAt p x + F) fun r H' => H' = DqAt p ⟨x.q, x.l ++ l.take (x.q - x.l.length)⟩ + F ∧ r = .int .i64 (min l.length (x.q - x.l.length) : Nat) := by
  obtain ⟨q, L⟩ := x
  refine Does.dq fun h t b S (hf : DqF q L h t S) => ?_
  show Does Try.prog B 11 _ (DqX p q h t b S + F) _
  have hfit := hf.fits
  have hq := hf.q2
  have hs' := hs
  unfold Rd at hs'
  obtain ⟨_, _, hv, hlen, hmax, ha⟩ := hs'
  cases hv
  obtain ⟨m, hm⟩ : ∃ m, m = min l.length (q - L.length) := ⟨_, rfl⟩
  have e1 : min (l.length : Int) ((q : Int) - L.length) = (m : Int) := by omega
  have e2 : l.take (q - L.length) = l.take m := by
    rcases Nat.lt_or_ge l.length (q - L.length) with h | h
    · rw [hm, Nat.min_eq_left (by omega), List.take_of_length_le (by omega), List.take_of_length_le (by omega)]
    · rw [hm, Nat.min_eq_right h]
  rw [e2, ← hm]
  refine fn_intro 29 Try.func11 rfl rfl rfl ?_
  refine walk ?_
  refine s_call rfl (roomX) rfl ?_
  rintro _ _ ⟨e_, rfl⟩
  obtain rfl := e_.symm
  refine walk ?_
  refine s_call rfl (lenX hf) rfl ?_
  rintro _ _ ⟨e_, rfl⟩
  obtain rfl := e_.symm
  refine walk ?_
  refine s_min2 rfl rfl e1 rfl ?_
  refine walk ?_
  (apply s_sliceH (h := m); (· exact rfl); (· exact rfl); (· omega); (· omega); (· exact rfl))
  refine walk ?_
  refine wp_loopF (α := Nat) [7, 20, 21, 22, 23, 24, 25, 26, 27] (fun k => [(20, .int .i64 k)]) (fun k => DqAt p ⟨q, L ++ l.take k⟩ + F) (fun k => k ≤ m) (fun k => m - k) 0 agreed ?_ (Nat.zero_le _) ?_
  · rw [List.take_zero, List.append_nil]
    exact (dq_shut (x := ⟨q, L⟩) hf).frame_right F
  rintro k g hk
  simp only [putAll]
  by_cases hlt : k < m
  · have hkl : k < l.length := by omega
    obtain ⟨bl, ol, rfl, hcl⟩ := Rd.addr hlen ha hkl
    refine walk ?_
    refine WPL.dq fun h2 t2 b2 S2 hf2 => ?_
    simp only at hf2
    refine s_call rfl (growX hf2 (by simp; omega)) rfl ?_
    rintro _ _ rfl
    refine walk ?_
    refine ⟨k + 1, asided, agreed, ?_, hlt, by omega⟩
    have := hf2.push (by simp; omega) l[k]
    rw [List.append_assoc, ← List.take_succ_eq_append_getElem hkl] at this
    exact (dq_shut (x := ⟨q, L ++ l.take (k + 1)⟩) this).frame_right F
  · have hke : k = m := by omega
    subst hke
    refine walk ?_
    exact ret1 (v := .int _ _) (.inr rfl) rfl rfl ⟨rfl, rfl⟩
theorem dLay [i : HasAt DqAt H p x F] {ao : Option Addr} {cap : Nat} {l : List Int} (hs : Rd B F 1 (.slice ao l.length cap) l.length (zs l)) (hc : l.length ≤ cap) :
    Does Try.prog B 11 [ptr p, .slice ao l.length cap] H fun r H' => H' = DqAt p ⟨x.q, x.l ++ l.take (x.q - x.l.length)⟩ + F ∧ r = .int .i64 (min l.length (x.q - x.l.length) : Nat) := Does.at (layX hs hc)
theorem dLay_nil {ao : Option Addr} {cap : Nat} {l : List Int} (hl : l.length ≤ maxLen) : Does Try.prog B 11 [.pointer none, .slice ao l.length cap] H fun r H' => H' = H ∧ r = .int .i64 0 := by
  refine fn_intro 29 Try.func11 rfl rfl rfl ?_
  refine walk ?_
  refine s_call rfl (dRoom_nil) rfl ?_
  rintro _ _ ⟨e_, rfl⟩
  obtain rfl := e_.symm
  refine walk ?_
  refine s_call rfl (dLen_nil) rfl ?_
  rintro _ _ ⟨e_, rfl⟩
  obtain rfl := e_.symm
  refine walk ?_
  refine s_min2 (r := 0) rfl rfl (by omega) rfl ?_
  refine walk ?_
  (apply s_sliceH (h := 0); (· exact rfl); (· exact rfl); (· omega); (· omega); (· exact rfl))
  refine walk ?_
  refine wp_loopR (α := Unit) [7, 20, 21, 22, 23, 24, 25, 26, 27] (fun _ => [(20, .int .i64 0)]) (fun _ => True) (fun _ => 0) () agreed trivial ?_
  rintro _ g _
  simp only [putAll]
  refine walk ?_
  exact ret1 (v := .int _ _) (.inr rfl) rfl rfl ⟨rfl, rfl⟩

theorem DqF.new {q : Nat} (hq : isRoom q = true) : DqF q [] 0 0 (List.replicate q 0) :=
  ⟨hq, by unfold U32; omega, by simp, by simp, by simp, fun i hi => by simp at hi⟩
theorem zs_zero (q : Nat) : (List.replicate q [Value.int .i64 0]).flatten = zs (List.replicate q 0) := by
  induction q with
  | zero => rfl
  | succ q ih => rw [List.replicate_succ, List.flatten_cons, ih]; rfl
theorem dNew {q : Nat} (hq : isRoom q = true) {ao : Option Addr} {cap : Nat} {l : List Int} (hs : Rd B H 1 (.slice ao l.length cap) l.length (zs l)) (hc : l.length ≤ cap) :
    Does Try.prog B 8 [.int .i64 q, .slice ao l.length cap] H fun r H' => ∃ p, r = .tuple #[ptr p, .int .i64 0] ∧ H' = DqAt p ⟨q, l.take q⟩ + H := by
  have hb := room_bound hq
  refine fn_intro 18 Try.func8 rfl rfl rfl ?_
  refine walk ?_
  refine s_call rfl (roomOf_spec) rfl ?_
  rintro _ _ ⟨e_, rfl⟩
  obtain rfl := e_.symm
  refine walk ?_
  rw [show (decide (0 ≤ (q : Int)) && isRoom (q : Int).toNat) = true by simp [hq]]
  refine walk ?_
  refine s_makeSlice (k := q) (c := q) rfl rfl (Nat.le_refl _) (by simp only [maxLen]; omega) rfl ?_
  intro b
  rw [zs_zero]
  refine s_build (cs := [wd 0 0, .slice (some ⟨b, 0, none⟩) q q]) rfl rfl ?_
  refine s_box (cs := [wd 0 0, .slice (some ⟨b, 0, none⟩) q q]) rfl rfl rfl ?_
  intro p
  refine walk ?_
  refine WPL.ent (G := DqAt p ⟨q, []⟩ + H) ?_ ?_
  · have e := (dq_shut (p := p) (b := ⟨b, q, []⟩) (x := ⟨q, []⟩) (DqF.new hq)).frame_right H
    unfold DqX at e
    simp only [List.append_nil] at e
    rw [HProp.add_assoc] at e
    exact e
  refine s_call rfl (dLay hs hc) rfl ?_
  rintro _ _ ⟨e_, rfl⟩
  obtain rfl := e_.symm
  refine walk ?_
  exact ret2 (v := .pointer _) (x := .int _ _) (.inr rfl) rfl rfl rfl ⟨p, rfl, by simp⟩
theorem dNew_not {q : Int} (hq : (decide (0 ≤ q) && isRoom q.toNat) = false) {v : Value} : Does Try.prog B 8 [.int .i64 q, v] H fun r H' => H' = H ∧ r = .tuple #[.pointer none, .int .i64 2] := by
  refine fn_intro 18 Try.func8 rfl rfl rfl ?_
  refine walk ?_
  refine s_call rfl (roomOf_spec) rfl ?_
  rintro _ _ ⟨e_, rfl⟩
  obtain rfl := e_.symm
  refine walk ?_
  rw [hq]
  refine walk ?_
  exact ret2 (v := .pointer _) (x := .int _ _) (.inr rfl) rfl rfl rfl ⟨rfl, rfl⟩

/-- A loop over a deque's numbers, from the n-th on: J: what the loop's body keeps; Jx: what it leaves where it stops. -/
theorem iter_spec (hf : DqF q L h t S) {bn bd l n : Nat} (hn : n ≤ L.length) {J Jx : List Int → HProp}
    (hy : ∀ pre y post, L.drop n = pre ++ y :: post → Yield Try.prog B l [.int .i64 y] (blk bn [.int .i64 n] 3 + (blk bd [ptr p] 24 + (DqX p q h t b S + J pre)))
      fun r H' => ∃ bo : Bool, r = .bool bo ∧ Ent H' (blk bn [.int .i64 n] 3 + (blk bd [ptr p] 24 + (DqX p q h t b S + (if bo then J (pre ++ [y]) else Jx (pre ++ [y])))))) :
    Does Try.prog B 51 [.func (.yield l) #[] #[], ptr bn, ptr bd] (blk bn [.int .i64 n] 3 + (blk bd [ptr p] 24 + (DqX p q h t b S + J [])))
      fun _ H' => H' = blk bn [.int .i64 n] 3 + (blk bd [ptr p] 24 + (DqX p q h t b S + J (L.drop n))) ∨
        ∃ pre y post, L.drop n = pre ++ y :: post ∧ H' = blk bn [.int .i64 n] 3 + (blk bd [ptr p] 24 + (DqX p q h t b S + Jx (pre ++ [y]))) := by
  have hq := hf.q2
  have hfit := hf.fits
  refine fn_intro 36 Try.func51 rfl rfl rfl ?_
  refine walk ?_
  refine wp_loopF (α := Nat) [4, 6, 7, 8, 9, 10, 11, 12, 13, 14, 15, 16, 17, 18, 19, 20, 21, 22, 23, 24, 25, 26, 27, 28, 29, 30, 31, 32, 33, 34, 35] (fun k => [(4, .int .i64 ((n + k : Nat) : Int))]) (fun k => blk bn [.int .i64 n] 3 + (blk bd [ptr p] 24 + (DqX p q h t b S + J ((L.drop n).take k)))) (fun k => k ≤ L.length - n) (fun k => L.length - n - k) 0 agreed (by rw [List.take_zero]; exact Ent.refl _) (Nat.zero_le _) ?_
  rintro k g hk
  simp only [putAll]
  refine walk ?_
  refine WPL.split (DqX p q h t b S) ?_
  refine s_call rfl (lenX hf) rfl ?_
  rintro _ _ ⟨e_, rfl⟩
  obtain rfl := e_.symm
  refine walk ?_
  by_cases hlt : n + k < L.length
  · have hd : k < (L.drop n).length := by simp; omega
    have hsplit : L.drop n = (L.drop n).take k ++ (L.drop n)[k] :: (L.drop n).drop (k + 1) := by
      rw [← List.drop_eq_getElem_cons hd, List.take_append_drop]
    have hyk := hy _ _ _ hsplit
    rw [← List.take_succ_eq_append_getElem hd] at hyk
    have hgx : (L.drop n)[k] = L[n + k] := by simp
    rw [hgx] at hyk
    have hat := hf.at_ (n + k) hlt
    have hm := Nat.mod_lt (h.toNat + (n + k)) (show q > 0 by omega)
    have epl := hf.place (n + k)
    have hcell : Cell B (DqX p q h t b S) b.b ((h.toNat + (n + k)) % q) (.int .i64 L[n + k]) := by
      unfold DqX
      refine Cell.blk ?_
      rw [List.getElem?_append_left (by rw [zs_length, hf.len]; exact hm)]
      simp [zs, hat]
    have hc1 : Cell B (DqX p q h t b S) p 0 (wd h t) := by unfold DqX; exact Cell.blk rfl
    have hc2 : Cell B (DqX p q h t b S) p 1 (.slice (some ⟨b.b, 0, none⟩) q b.cap) := by unfold DqX; exact Cell.blk rfl
    refine walk ?_
    (refine wp_draw [10, 19, 22] (.look 0 (.look 1 (.look 2 (.look 3 (.look 4 (.look 5 (.look 6 (.look 7 (.look 8 (.look 9 (.look 11 (.look 12 (.look 14 (.look 15 (.look 16 (.look 17 (.look 18 (.act 10 (.look 13 (.act 19 (.look 20 (.look 21 (.act 22 (.look 23 .nil) .stop))) .stop)) .stop)))))))))))))))))) (by kernel_rfl) ?_; (apply dw_pure; (· exact rfl); (· exact rfl); (· (intro G; exact looked))); (apply dw_look; (· exact rfl); (· exact rfl); (· exact looked)); (apply dw_pure; (· exact rfl); (· exact rfl); (· (intro G; exact looked))); (apply dw_pure; (· exact rfl); (· exact rfl); (· (intro G; exact looked))); (apply dw_look; (· exact rfl); (· exact rfl); (· exact looked)); (apply dw_look; (· exact rfl); (· exact rfl); (· exact looked)); (apply dw_pure; (· exact rfl); (· exact rfl); (· (intro G; exact looked))); (apply dw_pure; (· exact rfl); (· exact rfl); (· (intro G; exact looked))); (apply dw_pure; (· exact rfl); (· exact rfl); (· (intro G; exact looked))); (apply dw_look; (· exact rfl); (· exact rfl); (· exact looked)); (apply dw_pure; (· exact rfl); (· exact rfl); (· (intro G; exact looked))); (apply dw_pure; (· exact rfl); (· exact rfl); (· (intro G; exact looked))); (apply dw_look; (· exact rfl); (· exact rfl); (· exact looked)); (apply dw_pure; (· exact rfl); (· exact rfl); (· (intro G; exact looked))); (apply dw_pure; (· exact rfl); (· exact rfl); (· (intro G; exact looked))); (apply dw_look; (· exact rfl); (· exact rfl); (· exact looked)); (apply dw_pure; (· exact rfl); (· exact rfl); (· (intro G; exact looked))); skip)
    refine dw_do rfl rfl ?_ dw_stop
    refine s_call rfl (head_spec hf.hh hf.ht) rfl ?_
    rintro _ _ ⟨e_, rfl⟩
    obtain rfl := e_.symm
    refine wpl_nil (qone ⟨(by (refine st_again ?_ ?_; (· exact looked)); (refine st_again ?_ ?_; (· exact looked)); refine st_past (by kernel_rfl) ?_; refine st_past (by kernel_rfl) ?_; (refine st_again ?_ ?_; (· exact looked)); (refine st_again ?_ ?_; (· exact looked)); exact st_nil), ?_⟩)
    ((apply dw_pure; (· exact rfl); (· exact rfl); (· (intro G; exact looked))); skip)
    refine dw_do rfl rfl ?_ dw_stop
    refine s_call rfl (slot_spec (p := (h + ((n + k : Nat) : Int)) % 4294967296) (by unfold U32; omega) hf.room) rfl ?_
    rintro _ _ ⟨e_, rfl⟩
    obtain rfl := e_.symm
    rw [epl]
    refine wpl_nil (qone ⟨(by refine st_past (by kernel_rfl) ?_; refine st_past (by kernel_rfl) ?_; refine st_past (by kernel_rfl) ?_; refine st_past (by kernel_rfl) ?_; (refine st_again ?_ ?_; (· exact looked)); (refine st_again ?_ ?_; (· exact looked)); exact st_nil), ?_⟩)
    ((apply dw_pure; (· exact rfl); (· exact rfl); (· (intro G; exact looked))); (apply dw_look; (· exact rfl); (· exact rfl); (· exact looked)); skip)
    refine dw_do rfl rfl ?_ dw_stop
    refine WPL.ent (Ent.ac (show _ = blk bn [.int .i64 n] 3 + (blk bd [ptr p] 24 + (DqX p q h t b S + J ((L.drop n).take k))) by ac_rfl)) ?_
    refine s_yield rfl rfl hyk rfl ?_
    rintro _ H' ⟨bo, rfl, he⟩
    refine WPL.ent he ?_
    refine wpl_nil (qone ⟨(by refine st_past (by kernel_rfl) ?_; refine st_past (by kernel_rfl) ?_; refine st_past (by kernel_rfl) ?_; refine st_past (by kernel_rfl) ?_; refine st_past (by kernel_rfl) ?_; refine st_past (by kernel_rfl) ?_; refine st_past (by kernel_rfl) ?_; exact st_nil), ?_⟩)
    cases bo with
    | true =>
      ((apply dw_pure; (· exact rfl); (· exact rfl); (· (intro G; exact looked))); refine dw_nil ?_; skip)
      refine walk ?_
      exact ⟨k + 1, asided, agreed, Ent.refl _, by omega, by omega⟩
    | false =>
      ((apply dw_pure; (· exact rfl); (· exact rfl); (· (intro G; exact looked))); refine dw_nil ?_; skip)
      refine walk ?_
      refine ret0 (.inr rfl) rfl (.inr ⟨_, _, _, hsplit, ?_⟩)
      rw [hgx, ← hgx, ← List.take_succ_eq_append_getElem hd]
      rfl
  · have hke : k = L.length - n := by omega
    subst hke
    have e : (L.drop n).take (L.length - n) = L.drop n := List.take_of_length_le (by simp)
    rw [e]
    refine walk ?_
    refine QRet.ent (Ent.ac (by ac_rfl)) (ret0 (.inl rfl) rfl (.inl rfl))
end
end Go.Proofs.Ytcnpcmdcbafaeaa
