/- The predicates by which a book picks; of, about; what is added. No condition. -/
import Derived.Test.YtofgpppnknpblaaGreatDoorNzBook2
import Derived.Test.YtofgpppnknpblaaGreatDoorSL3
namespace Go.Proofs.YtofgpppnknpblaaGreatDoor
open Go Go.SL
set_option linter.unusedSimpArgs false
set_option linter.unusedVariables false
set_option maxRecDepth 10000
set_option maxHeartbeats 2000000
def pAbout (g : Int) (m : Nt) : Bool := (decide ((hasOf m.kind).head? = some 103) && decide (m.g = g)) || (decide (m.kind = 1) && decide (m.x = g))
attribute [local irreducible] WP WPL QSeq QBlk QRet Does Cell Cells Rd Mine Ent Aside RV Yield IterAt
section
variable {B : World} {F H G X Y : HProp} {n : Nat} {k v i g : Int} {b c : Nat} {ao : Option Addr} {s u fv : Value} {L M : List Nt} {p : Nt → Bool} {l : List UInt8} {K : List Int} {e : TypeId} {m : Nt}
theorem PredOf.frame (h : PredOf B F fv p) : PredOf B (Y + F) fv p := by
  obtain ⟨f, cp, hv, hcl, hpp⟩ := h
  refine ⟨f, cp, hv, hcl, fun m X => ?_⟩
  rw [← HProp.add_assoc]
  exact hpp m (X + Y)
theorem of_any : Does Tryz.prog B 36 [.int .i64 k] H fun r H' => H' = H ∧ ∃ w fl ok, r = .tuple #[.agg ([str w, str (hasOf k), .bool fl] : List Value).toArray, .bool ok] := by
  by_cases hk : 1 ≤ k ∧ k ≤ 16
  · obtain ⟨j, rfl⟩ := Int.eq_ofNat_of_zero_le (show 0 ≤ k by omega)
    refine (of_spec (by omega) (by omega)).weak fun r H1 ⟨e, h⟩ => ⟨_, e ▸ Ent.refl _, rfl, wordK j, flagK j, true, ?_⟩
    rw [h]
    unfold hasOf
    rw [if_pos (by omega), Int.toNat_natCast]
    rfl
  · have e : hasOf k = [] := by
      by_cases h : hasOf k = []
      · exact h
      · exact absurd (hasOf_kind h) hk
    refine (of_none hk).weak fun r H1 ⟨e1, h⟩ => ⟨_, e1 ▸ Ent.refl _, rfl, wordK 0, flagK 0, false, ?_⟩
    rw [h, e]
    rfl
theorem prefixL : Does Tryz.prog B 65 [str l, str [103]] H fun r H' => H' = H ∧ r = .bool (decide (l.head? = some 103)) := by
  cases l with
  | nil =>
    refine fn_intro 18 Tryz.func65 rfl rfl rfl ?_
    refine walk ?_
    refine s_slen (l := []) rfl rfl ?_
    refine walk ?_
    refine s_slen (l := [103]) rfl rfl ?_
    refine s_geq_f rfl rfl (by simp) rfl ?_
    refine walk ?_
    (first | refine ret1 (v := .bool _) (.inr rfl) rfl rfl ?_ | refine ret1  (.inr rfl) rfl rfl ?_ | refine ret1 (v := .bool _) (.inl rfl) rfl rfl ?_ | refine ret1  (.inl rfl) rfl rfl ?_)
    exact ⟨rfl, rfl⟩
  | cons a l =>
    refine fn_intro 18 Tryz.func65 rfl rfl rfl ?_
    refine walk ?_
    refine s_slen (l := a :: l) rfl rfl ?_
    refine walk ?_
    refine s_slen (l := [103]) rfl rfl ?_
    refine s_geq_t rfl rfl (by simp only [List.length_cons, List.length_nil]; omega) rfl ?_
    refine walk ?_
    refine s_slen (l := [103]) rfl rfl ?_
    refine walk ?_
    refine s_sslice (l := a :: l) (a := 0) (b := 1) (r := [a]) rfl rfl ⟨_, rfl⟩ (by omega) (by simp) rfl rfl ?_
    refine walk ?_
    refine s_eqstr rfl rfl (b := decide (a = 103)) (by congr 1; rw [str_eq]; simp) rfl ?_
    refine walk ?_
    (first | refine ret1 (v := .bool _) (.inr rfl) rfl rfl ?_ | refine ret1  (.inr rfl) rfl rfl ?_ | refine ret1 (v := .bool _) (.inl rfl) rfl rfl ?_ | refine ret1  (.inl rfl) rfl rfl ?_)
    exact ⟨rfl, by simp⟩
theorem hasPrefix : Does Tryz.prog B 52 [str l, str [103]] H fun r H' => H' = H ∧ r = .bool (decide (l.head? = some 103)) := by
  refine fn_intro 8 Tryz.func52 rfl rfl rfl ?_
  refine walk ?_
  refine s_call rfl (prefixL) rfl ?_
  rintro _ _ ⟨e_, rfl⟩
  obtain rfl := e_.symm
  refine walk ?_
  (first | refine ret1 (v := .bool _) (.inr rfl) rfl rfl ?_ | refine ret1  (.inr rfl) rfl rfl ?_ | refine ret1 (v := .bool _) (.inl rfl) rfl rfl ?_ | refine ret1  (.inl rfl) rfl rfl ?_)
  exact ⟨rfl, rfl⟩
theorem indexK (hs : Rd B H 1 s K.length (zs K)) (hK : K.length ≤ 1000000) : Does Tryz.prog B 64 [s, .int .i64 v] H fun r H' => H' = H ∧ ∃ k : Int, r = .int .i64 k ∧ (0 ≤ k ↔ v ∈ K) ∧ -1 ≤ k ∧ k ≤ 1000000 := by
  unfold Rd at hs
  obtain ⟨ao, cap, rfl, hl, hm, hc⟩ := hs
  refine fn_intro 19 Tryz.func64 rfl rfl rfl ?_
  refine walk ?_
  refine wp_loopR (α := Nat) [4, 5, 8, 9, 10, 11, 12, 13, 14, 15, 16, 17, 18] (fun j => [(8, .int .i64 (j : Nat))]) (fun j => ∃ hj : j ≤ K.length, ∀ q, (h : q < j) → K[q]'(by omega) ≠ v) (fun j => K.length - j) 0 agreed ⟨Nat.zero_le _, fun q h => by omega⟩ ?_
  rintro j g ⟨hj, hno⟩
  simp only [putAll]
  by_cases hlt : j < K.length
  · obtain ⟨bl, ol, rfl, hcells⟩ : ∃ b o, ao = some ⟨b, o, none⟩ ∧ Cells B H b o (zs K) := by
      rcases hc with h | h
      · have : (zs K).length = 0 := by rw [h]; rfl
        rw [zs_length] at this
        omega
      · exact h
    by_cases hv : v = K[j]
    · refine walk ?_
      (first | refine ret1 (v := .int _ _) (.inr rfl) rfl rfl ?_ | refine ret1  (.inr rfl) rfl rfl ?_ | refine ret1 (v := .int _ _) (.inl rfl) rfl rfl ?_ | refine ret1  (.inl rfl) rfl rfl ?_)
      exact ⟨rfl, _, rfl, ⟨fun _ => hv ▸ List.getElem_mem hlt, fun _ => by omega⟩, by omega, by omega⟩
    · refine walk ?_
      refine ⟨j + 1, asided, agreed, Ent.refl _, ⟨hlt, fun q hq => ?_⟩, by omega⟩
      rcases Nat.lt_or_ge q j with h | h
      · exact hno q h
      · obtain rfl : q = j := by omega
        exact fun e => hv e.symm
  · obtain rfl : j = K.length := by omega
    have hnot : v ∉ K := fun h => by
      obtain ⟨q, hq, e⟩ := List.mem_iff_getElem.1 h
      exact hno q hq e
    refine walk ?_
    (first | refine ret1 (v := .int _ _) (.inr rfl) rfl rfl ?_ | refine ret1  (.inr rfl) rfl rfl ?_ | refine ret1 (v := .int _ _) (.inl rfl) rfl rfl ?_ | refine ret1  (.inl rfl) rfl rfl ?_)
    exact ⟨rfl, _, rfl, ⟨fun h => absurd h (by omega), fun h => (hnot h).elim⟩, by omega, by omega⟩
theorem containsK (hs : Rd B H 1 s K.length (zs K)) (hK : K.length ≤ 1000000) : Does Tryz.prog B 50 [s, .int .i64 v] H fun r H' => H' = H ∧ r = .bool (decide (v ∈ K)) := by
  have hs' := hs
  unfold Rd at hs
  obtain ⟨ao, cap, rfl, hl, hm, hc⟩ := hs
  refine fn_intro 9 Tryz.func50 rfl rfl rfl ?_
  refine walk ?_
  refine s_call rfl (indexK hs' hK) rfl ?_
  rintro _ _ ⟨rfl, k, rfl, hk, _, _⟩
  refine walk ?_
  by_cases h : 0 ≤ k
  · refine walk ?_
    (first | refine ret1 (v := .bool _) (.inr rfl) rfl rfl ?_ | refine ret1  (.inr rfl) rfl rfl ?_ | refine ret1 (v := .bool _) (.inl rfl) rfl rfl ?_ | refine ret1  (.inl rfl) rfl rfl ?_)
    exact ⟨rfl, by rw [decide_eq_true (hk.1 h)]⟩
  · refine walk ?_
    (first | refine ret1 (v := .bool _) (.inr rfl) rfl rfl ?_ | refine ret1  (.inr rfl) rfl rfl ?_ | refine ret1 (v := .bool _) (.inl rfl) rfl rfl ?_ | refine ret1  (.inl rfl) rfl rfl ?_)
    exact ⟨rfl, by rw [decide_eq_false fun e => h (hk.2 e)]⟩
theorem someP (h : PredOf B F fv p) : PredOf B (blk b [fv] e + F) (.func (.func 63) ([] : List Value).toArray ([.pointer (some ⟨b, 0, none⟩)] : List Value).toArray) fun m => !p m := by
  obtain ⟨f, cp, rfl, hcl, hpp⟩ := h
  refine ⟨_, _, rfl, inferInstance, fun m X => ?_⟩
  refine Does.frame0 ?_
  refine fn_intro 8 Tryz.func63 rfl rfl rfl ?_
  refine walk ?_
  refine s_box (cs := nv m) rfl rfl rfl ?_
  intro b2
  refine walk ?_
  have hq := hpp m (blk b2 (nv m) 31 + (X + blk b [.func (.func f) ([] : List Value).toArray cp.toArray] e))
  rw [HProp.add_assoc, HProp.add_assoc] at hq
  refine s_callV (first := []) (cap := cp) rfl rfl hq rfl ?_
  rintro r _ ⟨rfl, rfl⟩
  cases hpm : p m with
  | true =>
    refine walk ?_
    (first | (apply retRD1 (G := (X + (blk b [.func (.func f) ([] : List Value).toArray cp.toArray] e + F))) (.inr rfl) rfl; (· first | (refine rv_tmp (v := .bool _) rfl) | exact rv_tmp rfl); (· exact Ent.auto)) | (apply retRD1 (G := (X + (blk b [.func (.func f) ([] : List Value).toArray cp.toArray] e + F))) (.inl rfl) rfl; (· first | (refine rv_tmp (v := .bool _) rfl) | exact rv_tmp rfl); (· exact Ent.auto)))
    exact ⟨Ent.refl _, by show _ = Value.bool (!p m); rw [hpm]; rfl⟩
  | false =>
    refine walk ?_
    (first | (apply retRD1 (G := (X + (blk b [.func (.func f) ([] : List Value).toArray cp.toArray] e + F))) (.inr rfl) rfl; (· first | (refine rv_tmp (v := .bool _) rfl) | exact rv_tmp rfl); (· exact Ent.auto)) | (apply retRD1 (G := (X + (blk b [.func (.func f) ([] : List Value).toArray cp.toArray] e + F))) (.inl rfl) rfl; (· first | (refine rv_tmp (v := .bool _) rfl) | exact rv_tmp rfl); (· exact Ent.auto)))
    exact ⟨Ent.refl _, by show _ = Value.bool (!p m); rw [hpm]; rfl⟩
theorem ofP (hs : Rd B F 1 (.slice ao K.length c) K.length (zs K)) (hK : K.length ≤ 1000000) : PredOf B (blk b [.slice ao K.length c] e + F) (.func (.func 49) ([] : List Value).toArray ([.pointer (some ⟨b, 0, none⟩)] : List Value).toArray) fun m => decide (m.kind ∈ K) := by
  refine ⟨_, _, rfl, inferInstance, fun m X => ?_⟩
  refine Does.frame0 ?_
  refine fn_intro 8 Tryz.func49 rfl rfl rfl ?_
  refine walk ?_
  refine s_box (cs := nv m) rfl rfl rfl ?_
  intro b2
  refine walk ?_
  refine s_call rfl (containsK (hs.ent InH.ent) hK) rfl ?_
  rintro _ _ ⟨e_, rfl⟩
  obtain rfl := e_.symm
  refine walk ?_
  (first | (apply retRD1 (G := (X + (blk b [.slice ao K.length c] e + F))) (.inr rfl) rfl; (· first | (refine rv_tmp (v := .bool _) rfl) | exact rv_tmp rfl); (· exact Ent.auto)) | (apply retRD1 (G := (X + (blk b [.slice ao K.length c] e + F))) (.inl rfl) rfl; (· first | (refine rv_tmp (v := .bool _) rfl) | exact rv_tmp rfl); (· exact Ent.auto)))
  exact ⟨Ent.refl _, rfl⟩
theorem addP : PredOf B F (.func (.func 46) ([] : List Value).toArray ([] : List Value).toArray) fun m => !decide (RightN m) := by
  refine ⟨_, _, rfl, inferInstance, fun m X => ?_⟩
  refine Does.frame0 ?_
  refine fn_intro 6 Tryz.func46 rfl rfl rfl ?_
  refine walk ?_
  refine s_box (cs := nv m) rfl rfl rfl ?_
  intro b2
  refine walk ?_
  refine s_call rfl (nRight (n := m)) rfl ?_
  rintro _ _ ⟨e_, rfl⟩
  obtain rfl := e_.symm
  refine walk ?_
  by_cases h : RightN m
  · simp only [decide_eq_true h]
    refine walk ?_
    (first | (apply retRD1 (G := (X + F)) (.inr rfl) rfl; (· first | (refine rv_tmp (v := .bool _) rfl) | exact rv_tmp rfl); (· exact Ent.auto)) | (apply retRD1 (G := (X + F)) (.inl rfl) rfl; (· first | (refine rv_tmp (v := .bool _) rfl) | exact rv_tmp rfl); (· exact Ent.auto)))
    exact ⟨Ent.refl _, rfl⟩
  · simp only [decide_eq_false h]
    refine walk ?_
    (first | (apply retRD1 (G := (X + F)) (.inr rfl) rfl; (· first | (refine rv_tmp (v := .bool _) rfl) | exact rv_tmp rfl); (· exact Ent.auto)) | (apply retRD1 (G := (X + F)) (.inl rfl) rfl; (· first | (refine rv_tmp (v := .bool _) rfl) | exact rv_tmp rfl); (· exact Ent.auto)))
    exact ⟨Ent.refl _, rfl⟩
theorem aboutP : PredOf B (blk b [.int .i64 g] e + F) (.func (.func 51) ([] : List Value).toArray ([.pointer (some ⟨b, 0, none⟩)] : List Value).toArray) (pAbout g) := by
  refine ⟨_, _, rfl, inferInstance, fun m X => ?_⟩
  refine Does.frame0 ?_
  refine fn_intro 32 Tryz.func51 rfl rfl rfl ?_
  refine walk ?_
  refine s_box (cs := nv m) rfl rfl rfl ?_
  intro b2
  refine walk ?_
  refine s_call rfl (of_any (k := m.kind)) rfl ?_
  rintro _ _ ⟨rfl, w, fl, ok, rfl⟩
  refine walk ?_
  refine s_alloc rfl ?_
  intro b4
  refine walk ?_
  refine s_storeV (vs := ([str w, str (hasOf m.kind), .bool fl])) rfl rfl rfl rfl rfl ?_
  refine walk ?_
  refine s_call rfl (hasPrefix (l := hasOf m.kind)) rfl ?_
  rintro _ _ ⟨e_, rfl⟩
  obtain rfl := e_.symm
  refine walk ?_
  by_cases h1 : (hasOf m.kind).head? = some 103 <;> by_cases h2 : m.g = g <;> by_cases h3 : m.kind = 1 <;> by_cases h4 : m.x = g <;> simp only [h1, decide_true, decide_false]
  · skip
    refine walk ?_
    (first | (apply retRD1 (G := (X + (blk b [.int .i64 g] e + F))) (.inr rfl) rfl; (· first | (refine rv_tmp (v := .bool _) rfl) | exact rv_tmp rfl); (· exact Ent.auto)) | (apply retRD1 (G := (X + (blk b [.int .i64 g] e + F))) (.inl rfl) rfl; (· first | (refine rv_tmp (v := .bool _) rfl) | exact rv_tmp rfl); (· exact Ent.auto)))
    exact ⟨Ent.refl _, by unfold pAbout; simp only [h1, h2, h4]; simp [h3]⟩
  · skip
    refine walk ?_
    (first | (apply retRD1 (G := (X + (blk b [.int .i64 g] e + F))) (.inr rfl) rfl; (· first | (refine rv_tmp (v := .bool _) rfl) | exact rv_tmp rfl); (· exact Ent.auto)) | (apply retRD1 (G := (X + (blk b [.int .i64 g] e + F))) (.inl rfl) rfl; (· first | (refine rv_tmp (v := .bool _) rfl) | exact rv_tmp rfl); (· exact Ent.auto)))
    exact ⟨Ent.refl _, by unfold pAbout; simp only [h1, h2, h4]; simp [h3]⟩
  · skip
    refine walk ?_
    (first | (apply retRD1 (G := (X + (blk b [.int .i64 g] e + F))) (.inr rfl) rfl; (· first | (refine rv_tmp (v := .bool _) rfl) | exact rv_tmp rfl); (· exact Ent.auto)) | (apply retRD1 (G := (X + (blk b [.int .i64 g] e + F))) (.inl rfl) rfl; (· first | (refine rv_tmp (v := .bool _) rfl) | exact rv_tmp rfl); (· exact Ent.auto)))
    exact ⟨Ent.refl _, by unfold pAbout; simp only [h1, h2, h4]; simp [h3]⟩
  · skip
    refine walk ?_
    (first | (apply retRD1 (G := (X + (blk b [.int .i64 g] e + F))) (.inr rfl) rfl; (· first | (refine rv_tmp (v := .bool _) rfl) | exact rv_tmp rfl); (· exact Ent.auto)) | (apply retRD1 (G := (X + (blk b [.int .i64 g] e + F))) (.inl rfl) rfl; (· first | (refine rv_tmp (v := .bool _) rfl) | exact rv_tmp rfl); (· exact Ent.auto)))
    exact ⟨Ent.refl _, by unfold pAbout; simp only [h1, h2, h4]; simp [h3]⟩
  · skip
    refine walk ?_
    (first | (apply retRD1 (G := (X + (blk b [.int .i64 g] e + F))) (.inr rfl) rfl; (· first | (refine rv_tmp (v := .bool _) rfl) | exact rv_tmp rfl); (· exact Ent.auto)) | (apply retRD1 (G := (X + (blk b [.int .i64 g] e + F))) (.inl rfl) rfl; (· first | (refine rv_tmp (v := .bool _) rfl) | exact rv_tmp rfl); (· exact Ent.auto)))
    exact ⟨Ent.refl _, by unfold pAbout; simp only [h1, h2, h4]; simp [h3]⟩
  · skip
    refine walk ?_
    (first | (apply retRD1 (G := (X + (blk b [.int .i64 g] e + F))) (.inr rfl) rfl; (· first | (refine rv_tmp (v := .bool _) rfl) | exact rv_tmp rfl); (· exact Ent.auto)) | (apply retRD1 (G := (X + (blk b [.int .i64 g] e + F))) (.inl rfl) rfl; (· first | (refine rv_tmp (v := .bool _) rfl) | exact rv_tmp rfl); (· exact Ent.auto)))
    exact ⟨Ent.refl _, by unfold pAbout; simp only [h1, h2, h4]; simp [h3]⟩
  · skip
    refine walk ?_
    (first | (apply retRD1 (G := (X + (blk b [.int .i64 g] e + F))) (.inr rfl) rfl; (· first | (refine rv_tmp (v := .bool _) rfl) | exact rv_tmp rfl); (· exact Ent.auto)) | (apply retRD1 (G := (X + (blk b [.int .i64 g] e + F))) (.inl rfl) rfl; (· first | (refine rv_tmp (v := .bool _) rfl) | exact rv_tmp rfl); (· exact Ent.auto)))
    exact ⟨Ent.refl _, by unfold pAbout; simp only [h1, h2, h4]; simp [h3]⟩
  · skip
    refine walk ?_
    (first | (apply retRD1 (G := (X + (blk b [.int .i64 g] e + F))) (.inr rfl) rfl; (· first | (refine rv_tmp (v := .bool _) rfl) | exact rv_tmp rfl); (· exact Ent.auto)) | (apply retRD1 (G := (X + (blk b [.int .i64 g] e + F))) (.inl rfl) rfl; (· first | (refine rv_tmp (v := .bool _) rfl) | exact rv_tmp rfl); (· exact Ent.auto)))
    exact ⟨Ent.refl _, by unfold pAbout; simp only [h1, h2, h4]; simp [h3]⟩
  · skip
    refine walk ?_
    (first | (apply retRD1 (G := (X + (blk b [.int .i64 g] e + F))) (.inr rfl) rfl; (· first | (refine rv_tmp (v := .bool _) rfl) | exact rv_tmp rfl); (· exact Ent.auto)) | (apply retRD1 (G := (X + (blk b [.int .i64 g] e + F))) (.inl rfl) rfl; (· first | (refine rv_tmp (v := .bool _) rfl) | exact rv_tmp rfl); (· exact Ent.auto)))
    exact ⟨Ent.refl _, by unfold pAbout; simp only [h1, h2, h4]; simp [h3]⟩
  · skip
    refine walk ?_
    (first | (apply retRD1 (G := (X + (blk b [.int .i64 g] e + F))) (.inr rfl) rfl; (· first | (refine rv_tmp (v := .bool _) rfl) | exact rv_tmp rfl); (· exact Ent.auto)) | (apply retRD1 (G := (X + (blk b [.int .i64 g] e + F))) (.inl rfl) rfl; (· first | (refine rv_tmp (v := .bool _) rfl) | exact rv_tmp rfl); (· exact Ent.auto)))
    exact ⟨Ent.refl _, by unfold pAbout; simp only [h1, h2, h4]; simp [h3]⟩
  · skip
    refine walk ?_
    (first | (apply retRD1 (G := (X + (blk b [.int .i64 g] e + F))) (.inr rfl) rfl; (· first | (refine rv_tmp (v := .bool _) rfl) | exact rv_tmp rfl); (· exact Ent.auto)) | (apply retRD1 (G := (X + (blk b [.int .i64 g] e + F))) (.inl rfl) rfl; (· first | (refine rv_tmp (v := .bool _) rfl) | exact rv_tmp rfl); (· exact Ent.auto)))
    exact ⟨Ent.refl _, by unfold pAbout; simp only [h1, h2, h4]; simp [h3]⟩
  · skip
    refine walk ?_
    (first | (apply retRD1 (G := (X + (blk b [.int .i64 g] e + F))) (.inr rfl) rfl; (· first | (refine rv_tmp (v := .bool _) rfl) | exact rv_tmp rfl); (· exact Ent.auto)) | (apply retRD1 (G := (X + (blk b [.int .i64 g] e + F))) (.inl rfl) rfl; (· first | (refine rv_tmp (v := .bool _) rfl) | exact rv_tmp rfl); (· exact Ent.auto)))
    exact ⟨Ent.refl _, by unfold pAbout; simp only [h1, h2, h4]; simp [h3]⟩
  · skip
    refine walk ?_
    (first | (apply retRD1 (G := (X + (blk b [.int .i64 g] e + F))) (.inr rfl) rfl; (· first | (refine rv_tmp (v := .bool _) rfl) | exact rv_tmp rfl); (· exact Ent.auto)) | (apply retRD1 (G := (X + (blk b [.int .i64 g] e + F))) (.inl rfl) rfl; (· first | (refine rv_tmp (v := .bool _) rfl) | exact rv_tmp rfl); (· exact Ent.auto)))
    exact ⟨Ent.refl _, by unfold pAbout; simp only [h1, h2, h4]; simp [h3]⟩
  · skip
    refine walk ?_
    (first | (apply retRD1 (G := (X + (blk b [.int .i64 g] e + F))) (.inr rfl) rfl; (· first | (refine rv_tmp (v := .bool _) rfl) | exact rv_tmp rfl); (· exact Ent.auto)) | (apply retRD1 (G := (X + (blk b [.int .i64 g] e + F))) (.inl rfl) rfl; (· first | (refine rv_tmp (v := .bool _) rfl) | exact rv_tmp rfl); (· exact Ent.auto)))
    exact ⟨Ent.refl _, by unfold pAbout; simp only [h1, h2, h4]; simp [h3]⟩
  · skip
    refine walk ?_
    (first | (apply retRD1 (G := (X + (blk b [.int .i64 g] e + F))) (.inr rfl) rfl; (· first | (refine rv_tmp (v := .bool _) rfl) | exact rv_tmp rfl); (· exact Ent.auto)) | (apply retRD1 (G := (X + (blk b [.int .i64 g] e + F))) (.inl rfl) rfl; (· first | (refine rv_tmp (v := .bool _) rfl) | exact rv_tmp rfl); (· exact Ent.auto)))
    exact ⟨Ent.refl _, by unfold pAbout; simp only [h1, h2, h4]; simp [h3]⟩
  · skip
    refine walk ?_
    (first | (apply retRD1 (G := (X + (blk b [.int .i64 g] e + F))) (.inr rfl) rfl; (· first | (refine rv_tmp (v := .bool _) rfl) | exact rv_tmp rfl); (· exact Ent.auto)) | (apply retRD1 (G := (X + (blk b [.int .i64 g] e + F))) (.inl rfl) rfl; (· first | (refine rv_tmp (v := .bool _) rfl) | exact rv_tmp rfl); (· exact Ent.auto)))
    exact ⟨Ent.refl _, by unfold pAbout; simp only [h1, h2, h4]; simp [h3]⟩
end
/-- The document's picking about a goroutine. -/
def pAbout' (g : Int) (m : Nt) : Bool := (decide (m.g = g) && decide (m.kind < 13)) || (decide (m.kind = 1) && decide (m.x = g))
theorem pAbout_right {g : Int} {m : Nt} (h : RightN m) : pAbout g m = pAbout' g m := by
  have hk := hasOf_kind h.1
  obtain ⟨j, hj⟩ := Int.eq_ofNat_of_zero_le (show 0 ≤ m.kind by omega)
  have key : ∀ j, j < 17 → 1 ≤ j → decide ((hasK j).head? = some 103) = decide (j < 13) := by decide
  have e1 : hasOf m.kind = hasK j := by unfold hasOf; rw [if_pos (by omega), hj, Int.toNat_natCast]
  have e2 : decide (m.kind < 13) = decide (j < 13) := decide_eq_decide.2 (by omega)
  unfold pAbout pAbout'
  rw [e1, key j (by omega) (by omega), e2, Bool.and_comm]
section
variable {B : World} {F H G X Y : HProp} {n : Nat} {k v i g : Int} {b c : Nat} {ao : Option Addr} {s u fv : Value} {L M : List Nt} {p : Nt → Bool} {l : List UInt8} {K : List Int} {e : TypeId} {m : Nt}
theorem filter_nn : (L.filter fun x => !(!p x)) = L.filter p := by simp
theorem bSome [ii : HasAt BookAt H b L F] (hL : L.length ≤ 1000000) (hp : PredOf B F fv p) : Does Tryz.prog B 48 [.pointer (some ⟨b, 0, none⟩), fv] H fun r H' => H' = Mine 31 5 r (L.filter p).length (nvs (L.filter p)) + H := by
  have hp' := hp
  obtain ⟨f, cp, rfl, hcl, hpp⟩ := hp
  refine Does.weak (R := fun r H' => Ent H' (Mine 31 5 r (L.filter p).length (nvs (L.filter p)) + H)) ?_ fun v H1 e => ⟨_, e, rfl⟩
  have hpH : PredOf B H (.func (.func f) ([] : List Value).toArray cp.toArray) p := by
    rw [ii.eq]; exact hp'.frame
  refine fn_intro 9 Tryz.func48 rfl rfl rfl ?_
  refine walk ?_
  refine s_box (v := .func (.func f) ([] : List Value).toArray cp.toArray) rfl rfl rfl ?_
  intro b3
  refine walk ?_
  refine s_call rfl (bAll (b := b) (L := L) hL) rfl ?_
  rintro r0 _ rfl
  refine WPL.shape ?_
  rintro ao cap rfl _ hc hm
  refine walk ?_
  refine s_makeFunc (first := []) (cap := [.tmp 3]) (vs := []) (us := [.pointer (some ⟨b3, 0, none⟩)]) rfl rfl rfl ?_
  refine walk ?_
  refine s_call rfl (deleteF (F := blk b3 [.func (.func f) ([] : List Value).toArray cp.toArray] _ + H) hL (someP hpH)) rfl ?_
  rintro r1 _ rfl
  rw [filter_nn]
  refine walk ?_
  refine ret1 (v := r1) (.inr rfl) rfl rfl ?_
  exact Ent.auto
theorem bOf [ii : HasAt BookAt H b L F] (hL : L.length ≤ 1000000) (hs : Rd B F 1 s K.length (zs K)) (hK : K.length ≤ 1000000) : Does Tryz.prog B 30 [.pointer (some ⟨b, 0, none⟩), s] H fun r H' => H' = Mine 31 5 r (L.filter fun m => decide (m.kind ∈ K)).length (nvs (L.filter fun m => decide (m.kind ∈ K))) + H := by
  have hs' := hs
  unfold Rd at hs
  obtain ⟨ao, cap, rfl, hl, hm, hc⟩ := hs
  rw [ii.eq]
  refine Does.weak (R := fun r H' => Ent H' (Mine 31 5 r (L.filter fun m => decide (m.kind ∈ K)).length (nvs (L.filter fun m => decide (m.kind ∈ K))) + (BookAt b L + F))) ?_ fun v H1 e => ⟨_, e, rfl⟩
  refine fn_intro 8 Tryz.func30 rfl rfl rfl ?_
  refine walk ?_
  refine s_box (v := .slice ao K.length cap) rfl rfl rfl ?_
  intro b3
  refine walk ?_
  refine s_makeFunc (first := []) (cap := [.tmp 3]) (vs := []) (us := [.pointer (some ⟨b3, 0, none⟩)]) rfl rfl rfl ?_
  refine walk ?_
  refine s_call rfl (bSome (b := b) (L := L) (F := blk b3 [.slice ao K.length cap] _ + F) (ii := ⟨by ac_rfl⟩) hL (ofP hs' hK)) rfl ?_
  rintro r1 _ rfl
  refine walk ?_
  refine ret1 (v := r1) (.inr rfl) rfl rfl ?_
  exact Ent.auto
theorem bAbout [ii : HasAt BookAt H b L F] (hL : L.length ≤ 1000000) : Does Tryz.prog B 32 [.pointer (some ⟨b, 0, none⟩), .int .i64 g] H fun r H' => H' = Mine 31 5 r (L.filter (pAbout g)).length (nvs (L.filter (pAbout g))) + H := by
  rw [ii.eq]
  refine Does.weak (R := fun r H' => Ent H' (Mine 31 5 r (L.filter (pAbout g)).length (nvs (L.filter (pAbout g))) + (BookAt b L + F))) ?_ fun v H1 e => ⟨_, e, rfl⟩
  refine fn_intro 8 Tryz.func32 rfl rfl rfl ?_
  refine walk ?_
  refine s_box (v := .int .i64 g) rfl rfl rfl ?_
  intro b3
  refine walk ?_
  refine s_makeFunc (first := []) (cap := [.tmp 3]) (vs := []) (us := [.pointer (some ⟨b3, 0, none⟩)]) rfl rfl rfl ?_
  refine walk ?_
  refine s_call rfl (bSome (b := b) (L := L) (F := blk b3 [.int .i64 g] _ + F) (ii := ⟨by ac_rfl⟩) hL aboutP) rfl ?_
  rintro r1 _ rfl
  refine walk ?_
  refine ret1 (v := r1) (.inr rfl) rfl rfl ?_
  exact Ent.auto
theorem bAdd [ii : HasAt BookAt H b L F] (hL : L.length ≤ 1000) (hs : Rd B F 5 s M.length (nvs M)) (hM : M.length ≤ 1000) : Does Tryz.prog B 26 [.pointer (some ⟨b, 0, none⟩), s] H fun r H' => H' = BookAt b (if M.all (fun m => decide (RightN m)) then L ++ M else L) + F ∧ r = .int .i64 (if M.all (fun m => decide (RightN m)) then 0 else 260) := by
  have hs' := hs
  unfold Rd at hs
  obtain ⟨ao, cap, rfl, hl, hm, hc⟩ := hs
  rw [ii.eq]
  have hany : (M.any fun m => !decide (RightN m)) = !(M.all fun m => decide (RightN m)) := by
    rw [List.any_eq_not_all_not]; simp
  refine Does.weak (R := fun r H' => Ent H' (BookAt b (if M.all (fun m => decide (RightN m)) then L ++ M else L) + F) ∧ r = .int .i64 (if M.all (fun m => decide (RightN m)) then 0 else 260)) ?_ fun v H1 ⟨e, h⟩ => ⟨_, e, rfl, h⟩
  refine Does.book fun ao2 c2 h1 h2 hr => ?_
  refine fn_intro 20 Tryz.func26 rfl rfl rfl ?_
  refine walk ?_
  refine s_call rfl (containsF (X := Mine 31 5 (.slice ao2 L.length c2) L.length (nvs L) + blk b [.slice ao2 L.length c2] 54) (F := F) (by rw [HProp.add_assoc]; exact hs'.ent InH.ent) (by omega) addP |> fun d => by rw [HProp.add_assoc] at d; exact d) rfl ?_
  rintro _ _ ⟨rfl, rfl⟩
  rw [hany]
  cases hall : M.all fun m => decide (RightN m) with
  | true =>
    refine walk ?_
    refine s_append (v := .slice ao2 L.length c2) rfl rfl (hs'.ent InH.ent) (nvs_one _) rfl ?_ rfl ?_
    · simp only [maxLen]; omega
    intro v'
    refine WPL.shape ?_
    rintro ao3 c3 rfl _ hc3 hm3
    refine walk ?_
    refine s_store (v := .slice ao3 (L.length + M.length) c3) rfl rfl rfl ?_ rfl ?_
    · exact Nat.zero_lt_one
    refine walk ?_
    refine ret1 (.inr rfl) rfl rfl ⟨?_, rfl⟩
    have := book_back (F := F) (b := b) (L := L ++ M) (ao := ao3) (c := c3) (by rw [List.length_append]; exact hc3) (by simpa [maxLen] using hm3)
    rw [List.length_append, nvs_app] at this
    refine Ent.trans (Ent.of_eq ?_) this
    ac_rfl
  | false =>
    refine walk ?_
    (first | refine ret1 (v := .int _ _) (.inr rfl) rfl rfl ?_ | refine ret1  (.inr rfl) rfl rfl ?_ | refine ret1 (v := .int _ _) (.inl rfl) rfl rfl ?_ | refine ret1  (.inl rfl) rfl rfl ?_)
    exact ⟨book_back h1 h2, rfl⟩
end
end Go.Proofs.YtofgpppnknpblaaGreatDoor
