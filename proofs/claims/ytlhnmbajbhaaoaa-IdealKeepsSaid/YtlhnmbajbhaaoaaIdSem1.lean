/- Semaphores: how they lie; what is read. No condition. -/
import Derived.Test.YtlhnmbajbhaaoaaIdFifo4
import Derived.Test.YtlhnmbajbhaaoaaSL3
namespace Go.Proofs.Ytlhnmbajbhaaoaa
open Go Go.SL
set_option linter.unusedSimpArgs false
set_option linter.unusedVariables false
set_option maxRecDepth 10000
set_option maxHeartbeats 1000000
attribute [local irreducible] WP WPL QSeq QBlk QRet Does Cell Cells Rd Mine Ent Aside RV Yield
/-- A semaphore's cells: map, first, last, count. -/
abbrev RowC := MapO × Int × Int × Int
def rowV (r : RowC) : List Value := [mapV r.1, .int .i64 r.2.1, .int .i64 r.2.2.1, .int .i64 r.2.2.2]
def cellsOf : List RowC → List Value
  | [] => []
  | r :: rs => rowV r ++ cellsOf rs
def mapsH : List RowC → HProp
  | [] => emp
  | r :: rs => mapH r.1 + mapsH rs
theorem cells_len (rs : List RowC) : (cellsOf rs).length = 4 * rs.length := by
  induction rs with
  | nil => rfl
  | cons r rs ih => simp only [cellsOf, List.length_append, ih, List.length_cons, rowV]; simp; omega
theorem cells_app (a b : List RowC) : cellsOf (a ++ b) = cellsOf a ++ cellsOf b := by
  induction a with
  | nil => rfl
  | cons r a ih => simp only [List.cons_append, cellsOf, ih, List.append_assoc]
theorem maps_app (a b : List RowC) : mapsH (a ++ b) = mapsH a + mapsH b := by
  induction a with
  | nil => simp only [List.nil_append, mapsH, HProp.emp_add]
  | cons r a ih => simp only [List.cons_append, mapsH, ih, HProp.add_assoc]
/-- Who waits, and how many more may come: a pair for each. -/
abbrev SemS := List (List Int × Int)
def whereOf (S : SemS) (g : Int) : Option Nat := S.findIdx? fun r => decide (g ∈ r.1)
/-- g waits at i. -/
def InS (S : SemS) (i : Nat) (g : Int) : Prop := ∃ l c, S[i]? = some (l, c) ∧ g ∈ l
structure SemF (rs : List RowC) (wm : Assoc) (S : SemS) : Prop where
  lo : 1 ≤ S.length
  hi : S.length ≤ 16
  len : rs.length = 16
  at_ : ∀ (i : Nat) (l : List Int) (c : Int), S[i]? = some (l, c) → ∃ x h t, rs[i]? = some (x, h, t, c) ∧ LnF x h t l
  wh : ∀ g, mget wm g = (whereOf S g).map fun k => .int .i64 ((k : Nat) : Int)
  wnd : (mkeys wm).Nodup
  cnt : ∀ (i : Nat) (l : List Int) (c : Int), S[i]? = some (l, c) → 0 ≤ c ∧ c ≤ 1073741824
  uniq : ∀ i j g, InS S i g → InS S j g → i = j
def SemX (p : Nat) (rs : List RowC) (n bw : Nat) (wm : Assoc) : HProp := blk p (cellsOf rs ++ [.int .i64 (n : Int), .map (some bw)]) 85 + (mapsH rs + MapAt bw wm)
def SemAt (p : Nat) (S : SemS) : HProp := ex fun x : List RowC × Nat × Assoc => fact (SemF x.1 x.2.2 S) (SemX p x.1 S.length x.2.1 x.2.2)
section
variable {B : World} {F H G : HProp} {p bw n : Nat} {rs : List RowC} {wm : Assoc} {S : SemS} {k g c : Int} {l : List Int}
/-- Row i, and the rest. -/
theorem rows_at {i : Nat} {r : RowC} (h : rs[i]? = some r) : rs = rs.take i ++ r :: rs.drop (i + 1) := by
  obtain ⟨hl, rfl⟩ := List.getElem?_eq_some_iff.1 h
  rw [← List.drop_eq_getElem_cons hl, List.take_append_drop]
/-- A row is taken out. -/
theorem semX_row {i : Nat} {x : MapO} {h t c : Int} (hr : rs[i]? = some (x, h, t, c)) :
    SemX p rs n bw wm = blk p (cellsOf (rs.take i) ++ mapV x :: .int .i64 h :: .int .i64 t :: (.int .i64 c :: (cellsOf (rs.drop (i + 1)) ++ [.int .i64 (n : Int), .map (some bw)]))) 85 + (mapH x + (mapsH (rs.take i) + (mapsH (rs.drop (i + 1)) + MapAt bw wm))) := by
  have e := rows_at hr
  unfold SemX
  conv => lhs; rw [e]
  rw [cells_app, maps_app]
  simp only [cellsOf, mapsH, rowV, List.append_assoc, List.cons_append, List.nil_append, HProp.add_assoc]
  congr 1
  ac_rfl
theorem take_len {i : Nat} {r : RowC} (hr : rs[i]? = some r) : (cellsOf (rs.take i)).length = 4 * i := by
  have := (List.getElem?_eq_some_iff.1 hr).1
  rw [cells_len, List.length_take]; omega
theorem semX_n (hf : SemF rs wm S) : Cell B (SemX p rs n bw wm) p 64 (.int .i64 (n : Int)) := by
  unfold SemX
  exact Cell.blk (by rw [List.getElem?_append_right (by rw [cells_len, hf.len]; omega), cells_len, hf.len]; rfl)
theorem semX_w (hf : SemF rs wm S) : Cell B (SemX p rs n bw wm) p 65 (.map (some bw)) := by
  unfold SemX
  exact Cell.blk (by rw [List.getElem?_append_right (by rw [cells_len, hf.len]; omega), cells_len, hf.len]; rfl)
theorem semX_ln (hf : SemF rs wm S) {i : Nat} (h : S[i]? = some (l, c)) : LnIn B (SemX p rs n bw wm + F) p (4 * i) l := by
  obtain ⟨x, h, t, hr, hl⟩ := hf.at_ i l c h
  rw [semX_row hr, ← take_len hr]
  simp only [HProp.add_assoc]
  exact lnIn0 hl
theorem semX_c (hf : SemF rs wm S) {i : Nat} (h : S[i]? = some (l, c)) : Cell B (SemX p rs n bw wm) p (4 * i + 3) (.int .i64 c) := by
  obtain ⟨x, h, t, hr, hl⟩ := hf.at_ i l c h
  rw [semX_row hr, ← take_len hr]
  exact Cell.blk (by rw [List.getElem?_append_right (by omega)]; simp)
theorem there_spec (hf : SemF rs wm S) : Does Try.prog B 77 [.pointer (some ⟨p, 0, none⟩), .int .i64 k] (SemX p rs S.length bw wm + F) fun r H' => H' = SemX p rs S.length bw wm + F ∧ r = .bool (decide (0 ≤ k ∧ k < S.length)) := by
  have c1 : Cell B (SemX p rs S.length bw wm) p 64 (.int .i64 (S.length : Int)) := semX_n hf
  refine fn_intro 15 Try.func77 rfl rfl rfl ?_
  by_cases h0 : 0 ≤ k
  · refine walkG ?_
    (first | refine ret1 (v := .bool _) (.inr rfl) rfl rfl ?_ | refine ret1  (.inr rfl) rfl rfl ?_ | refine ret1 (v := .bool _) (.inl rfl) rfl rfl ?_ | refine ret1  (.inl rfl) rfl rfl ?_)
    exact ⟨rfl, by simp [h0]⟩
  · refine walkG ?_
    (first | refine ret1 (v := .bool _) (.inr rfl) rfl rfl ?_ | refine ret1  (.inr rfl) rfl rfl ?_ | refine ret1 (v := .bool _) (.inl rfl) rfl rfl ?_ | refine ret1  (.inl rfl) rfl rfl ?_)
    exact ⟨rfl, by simp [h0]⟩
instance {p n bw : Nat} {rs : List RowC} {wm : Assoc} {F : HProp} : HasAt MapAt (SemX p rs n bw wm + F) bw wm (blk p (cellsOf rs ++ [.int .i64 (n : Int), .map (some bw)]) 85 + (mapsH rs + F)) := ⟨by unfold SemX; ac_rfl⟩
theorem where_get (hf : SemF rs wm S) : (mget wm g).getD (.int .i64 0) = .int .i64 (((whereOf S g).getD 0 : Nat) : Int) ∧ (mget wm g).isSome = (whereOf S g).isSome := by
  rw [hf.wh]
  cases whereOf S g <;> exact ⟨rfl, rfl⟩
theorem sWhere (hf : SemF rs wm S) : Does Try.prog B 93 [.pointer (some ⟨p, 0, none⟩), .int .i64 g] (SemX p rs S.length bw wm + F) fun r H' => H' = SemX p rs S.length bw wm + F ∧ r = .tuple #[.int .i64 (((whereOf S g).getD 0 : Nat) : Int), .bool (whereOf S g).isSome] := by
  have c1 : Cell B (SemX p rs S.length bw wm) p 65 (.map (some bw)) := semX_w hf
  refine fn_intro 21 Try.func93 rfl rfl rfl ?_
  refine walkG ?_
  refine s_mget2 rfl rfl (where_get hf).1 (where_get hf).2 rfl ?_
  refine walkG ?_
  (first | refine ret2 (v := .int _ _) (x := .bool _) (.inr rfl) rfl rfl rfl ?_ | refine ret2  (.inr rfl) rfl rfl rfl ?_ | refine ret2 (v := .int _ _) (x := .bool _) (.inl rfl) rfl rfl rfl ?_ | refine ret2  (.inl rfl) rfl rfl rfl ?_)
  exact ⟨rfl, rfl⟩
theorem autoSem115 {p q : Prop} (k : q) (h : Owed q → p := by
  intro k_
  refine walkG ?_
  repeat ((first | (show WPL _ _ _ _ _ (⟨_, .call ⟨.value (.func 77), _, _⟩, _, _, _, none⟩ :: _) _ _ _; (apply s_call; (· exact rfl); (· refine there_spec ?_ <;> (first | assumption | omega | decide | (unfold U32; omega) | exact InH.ent | (apply Rd.ent; (· assumption); (· exact InH.ent)) | exact Rd.nil | (refine Rd.blk0 ?_ ?_; (· rfl); (· simp [maxLen])) | simp)); (· exact rfl); rintro _ _ ⟨e_, rfl⟩; obtain rfl := e_.symm))); refine walkG ?_)
  exact k_.get) : p := h ⟨k⟩
theorem sCount (hf : SemF rs wm S) : Does Try.prog B 30 [.pointer (some ⟨p, 0, none⟩), .int .i64 k] (SemX p rs S.length bw wm + F) fun r H' => H' = SemX p rs S.length bw wm + F ∧ r = .int .i64 (if 0 ≤ k then (S[k.toNat]?.map (·.2)).getD (-1) else -1) := by
  refine fn_intro 20 Try.func30 rfl rfl rfl ?_
  refine autoSem115 ?_
  refine wp_cond_b rfl (fun h1 => ?_) (fun h1 => ?_) <;> try simp only [decide_eq_true_eq, decide_eq_false_iff_not, Bool.not_eq_true', Bool.not_eq_false', Bool.and_eq_true, Bool.or_eq_true, Bool.or_eq_false_iff] at h1
  · skip
    refine autoSem115 ?_
    (first | refine ret1 (v := .int _ _) (.inr rfl) rfl rfl ?_ | refine ret1  (.inr rfl) rfl rfl ?_ | refine ret1 (v := .int _ _) (.inl rfl) rfl rfl ?_ | refine ret1  (.inl rfl) rfl rfl ?_)
    exact ⟨rfl, by
      congr 1
      split
      · rw [List.getElem?_eq_none (by omega)]; rfl
      · rfl⟩
  · obtain ⟨h0, h1⟩ := h1
    have hlt : k.toNat < S.length := by omega
    obtain ⟨l, c, hs⟩ : ∃ l c, S[k.toNat]? = some (l, c) := ⟨_, _, List.getElem?_eq_getElem hlt⟩
    have hi := hf.hi
    have c3 : Cell B (SemX p rs S.length bw wm) p (4 * k.toNat + 3) (.int .i64 c) := semX_c hf hs
    refine autoSem115 ?_
    refine s_indexAddrA (j := k.toNat) rfl rfl rfl (by omega) (o' := 4 * k.toNat) (by omega) rfl ?_
    refine autoSem115 ?_
    (first | refine ret1 (v := .int _ _) (.inr rfl) rfl rfl ?_ | refine ret1  (.inr rfl) rfl rfl ?_ | refine ret1 (v := .int _ _) (.inl rfl) rfl rfl ?_ | refine ret1  (.inl rfl) rfl rfl ?_)
    exact ⟨rfl, by rw [if_pos h0, hs]; rfl⟩
/-- Who waits at k. -/
def rowS (S : SemS) (k : Int) : List Int := if 0 ≤ k then (S[k.toNat]?.map (·.1)).getD [] else []
theorem autoSem117 {p q : Prop} (k : q) (h : Owed q → p := by
  intro k_
  refine walkG ?_
  repeat ((first | (show WPL _ _ _ _ _ (⟨_, .call ⟨.value (.func 77), _, _⟩, _, _, _, none⟩ :: _) _ _ _; (apply s_call; (· exact rfl); (· refine there_spec ?_ <;> (first | assumption | omega | decide | (unfold U32; omega) | exact InH.ent | (apply Rd.ent; (· assumption); (· exact InH.ent)) | exact Rd.nil | (refine Rd.blk0 ?_ ?_; (· rfl); (· simp [maxLen])) | simp)); (· exact rfl); rintro _ _ ⟨e_, rfl⟩; obtain rfl := e_.symm))); refine walkG ?_)
  exact k_.get) : p := h ⟨k⟩
theorem sWaiting (hf : SemF rs wm S) (hb : ∀ (i : Nat) (l : List Int) (c : Int), S[i]? = some (l, c) → l.length ≤ 1000000) : Does Try.prog B 31 [.pointer (some ⟨p, 0, none⟩), .int .i64 k] (SemX p rs S.length bw wm + F) fun r H' => H' = Mine 3 1 r (rowS S k).length (zs (rowS S k)) + (SemX p rs S.length bw wm + F) := by
  refine fn_intro 20 Try.func31 rfl rfl rfl ?_
  refine autoSem117 ?_
  refine wp_cond_b rfl (fun h1 => ?_) (fun h1 => ?_) <;> try simp only [decide_eq_true_eq, decide_eq_false_iff_not, Bool.not_eq_true', Bool.not_eq_false', Bool.and_eq_true, Bool.or_eq_true, Bool.or_eq_false_iff] at h1
  · have e : rowS S k = [] := by
      unfold rowS
      split
      · rw [List.getElem?_eq_none (by omega)]; rfl
      · rfl
    rw [e]
    refine autoSem117 ?_
    (first | refine ret1 (v := .slice _ _ _) (.inr rfl) rfl rfl ?_ | refine ret1  (.inr rfl) rfl rfl ?_ | refine ret1 (v := .slice _ _ _) (.inl rfl) rfl rfl ?_ | refine ret1  (.inl rfl) rfl rfl ?_)
    exact (by show _ = Mine 3 1 _ 0 [] + _; rw [Mine.nil, HProp.emp_add])
  · obtain ⟨h0, h1⟩ := h1
    have hlt : k.toNat < S.length := by omega
    obtain ⟨l, c, hs⟩ : ∃ l c, S[k.toNat]? = some (l, c) := ⟨_, _, List.getElem?_eq_getElem hlt⟩
    have hi := hf.hi
    have e : rowS S k = l := by unfold rowS; rw [if_pos h0, hs]; rfl
    rw [e]
    refine autoSem117 ?_
    refine s_indexAddrA (j := k.toNat) rfl rfl rfl (by omega) (o' := 4 * k.toNat) (by omega) rfl ?_
    refine autoSem117 ?_
    refine s_call rfl (lnAll (hb _ _ _ hs) (semX_ln hf hs)) rfl ?_
    rintro _ _ rfl
    refine walk ?_
    (first | (apply retRD1 (G := (Mine 3 1 _ l.length (zs l) + (SemX p rs S.length bw wm + F))) (.inr rfl) rfl; (· first | (refine rv_tmp (v := .slice _ _ _) rfl) | exact rv_tmp rfl); (· exact Ent.auto)) | (apply retRD1 (G := (Mine 3 1 _ l.length (zs l) + (SemX p rs S.length bw wm + F))) (.inl rfl) rfl; (· first | (refine rv_tmp (v := .slice _ _ _) rfl) | exact rv_tmp rfl); (· exact Ent.auto)))
    exact rfl
end
end Go.Proofs.Ytlhnmbajbhaaoaa
