/- Semaphores: how they lie; what is read. Semaphores: plain facts; shut and opened. Semaphores: what is done. Semaphores: new ones. Semaphores as a state: what is asked, and done; a copy. A config is right, or not. The system, as a thing of numbers: what notes may be, and what they do. The system in memory; its small functions. The system in memory; its small functions, the others. What may be: each kind of notes. No condition. -/
import Derived.Test.YtlhnmbajbhaaoaaGreatB3
import Derived.Test.YtlhnmbajbhaaoaaGreatSL3
import Derived.Test.YtlhnmbajbhaaoaaGreatSL2
import Derived.Test.YtlhnmbajbhaaoaaGreatB1
namespace Go.Proofs.YtlhnmbajbhaaoaaGreat
open Go Go.SL
set_option linter.unusedSimpArgs false
set_option linter.unusedVariables false
set_option maxRecDepth 10000
set_option maxHeartbeats 1000000
attribute [local irreducible] WP WPL QSeq QBlk QRet Does Cell Cells Rd Mine Ent Aside RV Yield
/-- A semaphore's cells: map, first, last, count. -/
abbrev RowC := MapO × Int × Int × Int
def rowV (r : RowC) : List Value := [mapV r.1, .int .i64 r.2.1, .int .i64 r.2.2.1, .int .i64 r.2.2.2]
def cellsOf : List RowC → List Value
  | [] => []
  | r :: rs => rowV r ++ cellsOf rs
def mapsH : List RowC → HProp
  | [] => emp
  | r :: rs => mapH r.1 + mapsH rs
theorem cells_len (rs : List RowC) : (cellsOf rs).length = 4 * rs.length := by
  induction rs with
  | nil => rfl
  | cons r rs ih => simp only [cellsOf, List.length_append, ih, List.length_cons, rowV]; simp; omega
theorem cells_app (a b : List RowC) : cellsOf (a ++ b) = cellsOf a ++ cellsOf b := by
  induction a with
  | nil => rfl
  | cons r a ih => simp only [List.cons_append, cellsOf, ih, List.append_assoc]
theorem maps_app (a b : List RowC) : mapsH (a ++ b) = mapsH a + mapsH b := by
  induction a with
  | nil => simp only [List.nil_append, mapsH, HProp.emp_add]
  | cons r a ih => simp only [List.cons_append, mapsH, ih, HProp.add_assoc]
/-- Who waits, and how many more may come: a pair for each. -/
abbrev SemS := List (List Int × Int)
def whereOf (S : SemS) (g : Int) : Option Nat := S.findIdx? fun r => decide (g ∈ r.1)
/-- g waits at i. -/
def InS (S : SemS) (i : Nat) (g : Int) : Prop := ∃ l c, S[i]? = some (l, c) ∧ g ∈ l
structure SemF (rs : List RowC) (wm : Assoc) (S : SemS) : Prop where
  lo : 1 ≤ S.length
  hi : S.length ≤ 16
  len : rs.length = 16
  at_ : ∀ (i : Nat) (l : List Int) (c : Int), S[i]? = some (l, c) → ∃ x h t, rs[i]? = some (x, h, t, c) ∧ LnF x h t l
  wh : ∀ g, mget wm g = (whereOf S g).map fun k => .int .i64 ((k : Nat) : Int)
  wnd : (mkeys wm).Nodup
  cnt : ∀ (i : Nat) (l : List Int) (c : Int), S[i]? = some (l, c) → 0 ≤ c ∧ c ≤ 1073741824
  uniq : ∀ i j g, InS S i g → InS S j g → i = j
def SemX (p : Nat) (rs : List RowC) (n bw : Nat) (wm : Assoc) : HProp := blk p (cellsOf rs ++ [.int .i64 (n : Int), .map (some bw)]) 120 + (mapsH rs + MapAt bw wm)
def SemAt (p : Nat) (S : SemS) : HProp := ex fun x : List RowC × Nat × Assoc => fact (SemF x.1 x.2.2 S) (SemX p x.1 S.length x.2.1 x.2.2)
section
variable {B : World} {F H G : HProp} {p bw n : Nat} {rs : List RowC} {wm : Assoc} {S : SemS} {k g c : Int} {l : List Int}
/-- Row i, and the rest. -/
theorem rows_at {i : Nat} {r : RowC} (h : rs[i]? = some r) : rs = rs.take i ++ r :: rs.drop (i + 1) := by
  obtain ⟨hl, rfl⟩ := List.getElem?_eq_some_iff.1 h
  rw [← List.drop_eq_getElem_cons hl, List.take_append_drop]
/-- A row is taken out. -/
theorem semX_row {i : Nat} {x : MapO} {h t c : Int} (hr : rs[i]? = some (x, h, t, c)) :
    SemX p rs n bw wm = blk p (cellsOf (rs.take i) ++ mapV x :: .int .i64 h :: .int .i64 t :: (.int .i64 c :: (cellsOf (rs.drop (i + 1)) ++ [.int .i64 (n : Int), .map (some bw)]))) 120 + (mapH x + (mapsH (rs.take i) + (mapsH (rs.drop (i + 1)) + MapAt bw wm))) := by
  have e := rows_at hr
  unfold SemX
  conv => lhs; rw [e]
  rw [cells_app, maps_app]
  simp only [cellsOf, mapsH, rowV, List.append_assoc, List.cons_append, List.nil_append, HProp.add_assoc]
  congr 1
  ac_rfl
theorem take_len {i : Nat} {r : RowC} (hr : rs[i]? = some r) : (cellsOf (rs.take i)).length = 4 * i := by
  have := (List.getElem?_eq_some_iff.1 hr).1
  rw [cells_len, List.length_take]; omega
theorem semX_n (hf : SemF rs wm S) : Cell B (SemX p rs n bw wm) p 64 (.int .i64 (n : Int)) := by
  unfold SemX
  exact Cell.blk (by rw [List.getElem?_append_right (by rw [cells_len, hf.len]; omega), cells_len, hf.len]; rfl)
theorem semX_w (hf : SemF rs wm S) : Cell B (SemX p rs n bw wm) p 65 (.map (some bw)) := by
  unfold SemX
  exact Cell.blk (by rw [List.getElem?_append_right (by rw [cells_len, hf.len]; omega), cells_len, hf.len]; rfl)
theorem semX_ln (hf : SemF rs wm S) {i : Nat} (h : S[i]? = some (l, c)) : LnIn B (SemX p rs n bw wm + F) p (4 * i) l := by
  obtain ⟨x, h, t, hr, hl⟩ := hf.at_ i l c h
  rw [semX_row hr, ← take_len hr]
  simp only [HProp.add_assoc]
  exact lnIn0 hl
theorem semX_c (hf : SemF rs wm S) {i : Nat} (h : S[i]? = some (l, c)) : Cell B (SemX p rs n bw wm) p (4 * i + 3) (.int .i64 c) := by
  obtain ⟨x, h, t, hr, hl⟩ := hf.at_ i l c h
  rw [semX_row hr, ← take_len hr]
  exact Cell.blk (by rw [List.getElem?_append_right (by omega)]; simp)
theorem there_spec (hf : SemF rs wm S) : Does Tryz.prog B 102 [.pointer (some ⟨p, 0, none⟩), .int .i64 k] (SemX p rs S.length bw wm + F) fun r H' => H' = SemX p rs S.length bw wm + F ∧ r = .bool (decide (0 ≤ k ∧ k < S.length)) := by
  have c1 : Cell B (SemX p rs S.length bw wm) p 64 (.int .i64 (S.length : Int)) := semX_n hf
  refine fn_intro 15 Tryz.func102 rfl rfl rfl ?_
  by_cases h0 : 0 ≤ k
  · refine walkG ?_
    (first | refine ret1 (v := .bool _) (.inr rfl) rfl rfl ?_ | refine ret1  (.inr rfl) rfl rfl ?_ | refine ret1 (v := .bool _) (.inl rfl) rfl rfl ?_ | refine ret1  (.inl rfl) rfl rfl ?_)
    exact ⟨rfl, by simp [h0]⟩
  · refine walkG ?_
    (first | refine ret1 (v := .bool _) (.inr rfl) rfl rfl ?_ | refine ret1  (.inr rfl) rfl rfl ?_ | refine ret1 (v := .bool _) (.inl rfl) rfl rfl ?_ | refine ret1  (.inl rfl) rfl rfl ?_)
    exact ⟨rfl, by simp [h0]⟩
instance {p n bw : Nat} {rs : List RowC} {wm : Assoc} {F : HProp} : HasAt MapAt (SemX p rs n bw wm + F) bw wm (blk p (cellsOf rs ++ [.int .i64 (n : Int), .map (some bw)]) 120 + (mapsH rs + F)) := ⟨by unfold SemX; ac_rfl⟩
theorem where_get (hf : SemF rs wm S) : (mget wm g).getD (.int .i64 0) = .int .i64 (((whereOf S g).getD 0 : Nat) : Int) ∧ (mget wm g).isSome = (whereOf S g).isSome := by
  rw [hf.wh]
  cases whereOf S g <;> exact ⟨rfl, rfl⟩
theorem sWhere (hf : SemF rs wm S) : Does Tryz.prog B 124 [.pointer (some ⟨p, 0, none⟩), .int .i64 g] (SemX p rs S.length bw wm + F) fun r H' => H' = SemX p rs S.length bw wm + F ∧ r = .tuple #[.int .i64 (((whereOf S g).getD 0 : Nat) : Int), .bool (whereOf S g).isSome] := by
  have c1 : Cell B (SemX p rs S.length bw wm) p 65 (.map (some bw)) := semX_w hf
  refine fn_intro 21 Tryz.func124 rfl rfl rfl ?_
  refine walkG ?_
  refine s_mget2 rfl rfl (where_get hf).1 (where_get hf).2 rfl ?_
  refine walkG ?_
  (first | refine ret2 (v := .int _ _) (x := .bool _) (.inr rfl) rfl rfl rfl ?_ | refine ret2  (.inr rfl) rfl rfl rfl ?_ | refine ret2 (v := .int _ _) (x := .bool _) (.inl rfl) rfl rfl rfl ?_ | refine ret2  (.inl rfl) rfl rfl rfl ?_)
  exact ⟨rfl, rfl⟩
theorem autoSem115 {p q : Prop} (k : q) (h : Owed q → p := by
  intro k_
  refine walkG ?_
  repeat ((first | (show WPL _ _ _ _ _ (⟨_, .call ⟨.value (.func 102), _, _⟩, _, _, _, none⟩ :: _) _ _ _; (apply s_call; (· exact rfl); (· refine there_spec ?_ <;> (first | assumption | omega | decide | (unfold U32; omega) | exact InH.ent | (apply Rd.ent; (· assumption); (· exact InH.ent)) | exact Rd.nil | (refine Rd.blk0 ?_ ?_; (· rfl); (· simp [maxLen])) | simp)); (· exact rfl); rintro _ _ ⟨e_, rfl⟩; obtain rfl := e_.symm))); refine walkG ?_)
  exact k_.get) : p := h ⟨k⟩
theorem sCount (hf : SemF rs wm S) : Does Tryz.prog B 44 [.pointer (some ⟨p, 0, none⟩), .int .i64 k] (SemX p rs S.length bw wm + F) fun r H' => H' = SemX p rs S.length bw wm + F ∧ r = .int .i64 (if 0 ≤ k then (S[k.toNat]?.map (·.2)).getD (-1) else -1) := by
  refine fn_intro 20 Tryz.func44 rfl rfl rfl ?_
  refine autoSem115 ?_
  refine wp_cond_b rfl (fun h1 => ?_) (fun h1 => ?_) <;> try simp only [decide_eq_true_eq, decide_eq_false_iff_not, Bool.not_eq_true', Bool.not_eq_false', Bool.and_eq_true, Bool.or_eq_true, Bool.or_eq_false_iff] at h1
  · skip
    refine autoSem115 ?_
    (first | refine ret1 (v := .int _ _) (.inr rfl) rfl rfl ?_ | refine ret1  (.inr rfl) rfl rfl ?_ | refine ret1 (v := .int _ _) (.inl rfl) rfl rfl ?_ | refine ret1  (.inl rfl) rfl rfl ?_)
    exact ⟨rfl, by
      congr 1
      split
      · rw [List.getElem?_eq_none (by omega)]; rfl
      · rfl⟩
  · obtain ⟨h0, h1⟩ := h1
    have hlt : k.toNat < S.length := by omega
    obtain ⟨l, c, hs⟩ : ∃ l c, S[k.toNat]? = some (l, c) := ⟨_, _, List.getElem?_eq_getElem hlt⟩
    have hi := hf.hi
    have c3 : Cell B (SemX p rs S.length bw wm) p (4 * k.toNat + 3) (.int .i64 c) := semX_c hf hs
    refine autoSem115 ?_
    refine s_indexAddrA (j := k.toNat) rfl rfl rfl (by omega) (o' := 4 * k.toNat) (by omega) rfl ?_
    refine autoSem115 ?_
    (first | refine ret1 (v := .int _ _) (.inr rfl) rfl rfl ?_ | refine ret1  (.inr rfl) rfl rfl ?_ | refine ret1 (v := .int _ _) (.inl rfl) rfl rfl ?_ | refine ret1  (.inl rfl) rfl rfl ?_)
    exact ⟨rfl, by rw [if_pos h0, hs]; rfl⟩
/-- Who waits at k. -/
def rowS (S : SemS) (k : Int) : List Int := if 0 ≤ k then (S[k.toNat]?.map (·.1)).getD [] else []
theorem autoSem117 {p q : Prop} (k : q) (h : Owed q → p := by
  intro k_
  refine walkG ?_
  repeat ((first | (show WPL _ _ _ _ _ (⟨_, .call ⟨.value (.func 102), _, _⟩, _, _, _, none⟩ :: _) _ _ _; (apply s_call; (· exact rfl); (· refine there_spec ?_ <;> (first | assumption | omega | decide | (unfold U32; omega) | exact InH.ent | (apply Rd.ent; (· assumption); (· exact InH.ent)) | exact Rd.nil | (refine Rd.blk0 ?_ ?_; (· rfl); (· simp [maxLen])) | simp)); (· exact rfl); rintro _ _ ⟨e_, rfl⟩; obtain rfl := e_.symm))); refine walkG ?_)
  exact k_.get) : p := h ⟨k⟩
theorem sWaiting (hf : SemF rs wm S) (hb : ∀ (i : Nat) (l : List Int) (c : Int), S[i]? = some (l, c) → l.length ≤ 1000000) : Does Tryz.prog B 45 [.pointer (some ⟨p, 0, none⟩), .int .i64 k] (SemX p rs S.length bw wm + F) fun r H' => H' = Mine 3 1 r (rowS S k).length (zs (rowS S k)) + (SemX p rs S.length bw wm + F) := by
  refine fn_intro 20 Tryz.func45 rfl rfl rfl ?_
  refine autoSem117 ?_
  refine wp_cond_b rfl (fun h1 => ?_) (fun h1 => ?_) <;> try simp only [decide_eq_true_eq, decide_eq_false_iff_not, Bool.not_eq_true', Bool.not_eq_false', Bool.and_eq_true, Bool.or_eq_true, Bool.or_eq_false_iff] at h1
  · have e : rowS S k = [] := by
      unfold rowS
      split
      · rw [List.getElem?_eq_none (by omega)]; rfl
      · rfl
    rw [e]
    refine autoSem117 ?_
    (first | refine ret1 (v := .slice _ _ _) (.inr rfl) rfl rfl ?_ | refine ret1  (.inr rfl) rfl rfl ?_ | refine ret1 (v := .slice _ _ _) (.inl rfl) rfl rfl ?_ | refine ret1  (.inl rfl) rfl rfl ?_)
    exact (by show _ = Mine 3 1 _ 0 [] + _; rw [Mine.nil, HProp.emp_add])
  · obtain ⟨h0, h1⟩ := h1
    have hlt : k.toNat < S.length := by omega
    obtain ⟨l, c, hs⟩ : ∃ l c, S[k.toNat]? = some (l, c) := ⟨_, _, List.getElem?_eq_getElem hlt⟩
    have hi := hf.hi
    have e : rowS S k = l := by unfold rowS; rw [if_pos h0, hs]; rfl
    rw [e]
    refine autoSem117 ?_
    refine s_indexAddrA (j := k.toNat) rfl rfl rfl (by omega) (o' := 4 * k.toNat) (by omega) rfl ?_
    refine autoSem117 ?_
    refine s_call rfl (lnAll (hb _ _ _ hs) (semX_ln hf hs)) rfl ?_
    rintro _ _ rfl
    refine walk ?_
    (first | (apply retRD1 (G := (Mine 3 1 _ l.length (zs l) + (SemX p rs S.length bw wm + F))) (.inr rfl) rfl; (· first | (refine rv_tmp (v := .slice _ _ _) rfl) | exact rv_tmp rfl); (· exact Ent.auto)) | (apply retRD1 (G := (Mine 3 1 _ l.length (zs l) + (SemX p rs S.length bw wm + F))) (.inl rfl) rfl; (· first | (refine rv_tmp (v := .slice _ _ _) rfl) | exact rv_tmp rfl); (· exact Ent.auto)))
    exact rfl
end
end Go.Proofs.YtlhnmbajbhaaoaaGreat
namespace Go.Proofs.YtlhnmbajbhaaoaaGreat
open Go Go.SL
set_option linter.unusedSimpArgs false
set_option linter.unusedVariables false
set_option maxRecDepth 10000
attribute [local irreducible] WP WPL QSeq QBlk QRet Does Cell Cells Rd Mine Ent Aside RV Yield
section
variable {ro : Option Nat} {B : World} {F H G : HProp} {p bw n i : Nat} {rs : List RowC} {wm : Assoc} {S : SemS} {k g y c c' h t : Int} {l l' : List Int} {x : MapO} {f : FuncId} {args : List Value} {R : Value → HProp → Prop}
theorem where_in {k : Nat} (h : whereOf S g = some k) : InS S k g := by
  obtain ⟨hk, hp, _⟩ := List.findIdx?_eq_some_iff_getElem.1 h
  exact ⟨S[k].1, S[k].2, List.getElem?_eq_getElem hk, by simpa using hp⟩
theorem where_none : whereOf S g = none ↔ ∀ i, ¬ InS S i g := by
  unfold whereOf
  rw [List.findIdx?_eq_none_iff]
  constructor
  · rintro h i ⟨l, c, hi, hg⟩
    have := h _ (List.mem_of_getElem? hi)
    simp at this
    exact this hg
  · intro h r hr
    obtain ⟨i, hi⟩ := List.getElem?_of_mem hr
    simp only [decide_eq_false_iff_not]
    exact fun hg => h i ⟨r.1, r.2, hi, hg⟩
theorem where_iff (hu : ∀ i j g, InS S i g → InS S j g → i = j) {k : Nat} : whereOf S g = some k ↔ InS S k g := by
  refine ⟨where_in, fun h => ?_⟩
  cases hw : whereOf S g with
  | none => exact absurd h (where_none.1 hw k)
  | some j => rw [hu _ _ _ (where_in hw) h]
theorem where_of {w : Option Nat} (h : ∀ k, whereOf S g = some k ↔ w = some k) : whereOf S g = w := by
  cases hw : whereOf S g with
  | some k => exact ((h k).1 hw).symm
  | none => cases w with
    | none => rfl
    | some k => rw [(h k).2 rfl] at hw; cases hw
theorem in_set (hi : i < S.length) {j : Nat} : InS (S.set i (l', c')) j g ↔ if j = i then g ∈ l' else InS S j g := by
  unfold InS
  rw [List.getElem?_set]
  by_cases hj : i = j
  · subst hj
    simp [hi]
  · have : ¬ j = i := fun e => hj e.symm
    simp [hj, this]
theorem LnF.nd (h' : LnF x h t l) : l.Nodup := by
  cases x with
  | none => rw [show l = [] from h']; exact List.nodup_nil
  | some x => exact LinkF.nd h'
/-- One semaphore turns. -/
theorem SemF.set (hf : SemF rs wm S) {wm' : Assoc} {x' : MapO} {h' t' : Int} (hi : S[i]? = some (l, c)) (hl : LnF x' h' t' l') (hc : 0 ≤ c' ∧ c' ≤ 1073741824)
    (hw : ∀ g, mget wm' g = (whereOf (S.set i (l', c')) g).map fun k => .int .i64 ((k : Nat) : Int)) (hn : (mkeys wm').Nodup) (hu : ∀ a b g, InS (S.set i (l', c')) a g → InS (S.set i (l', c')) b g → a = b) :
    SemF (rs.set i (x', h', t', c')) wm' (S.set i (l', c')) := by
  have hil := (List.getElem?_eq_some_iff.1 hi).1
  have h16 := hf.hi
  have hlen := hf.len
  refine ⟨by rw [List.length_set]; exact hf.lo, by rw [List.length_set]; exact hf.hi, by rw [List.length_set]; exact hf.len, ?_, hw, hn, ?_, hu⟩
  · intro j l2 c2 hj
    rw [List.getElem?_set] at hj ⊢
    split at hj
    · subst_vars
      cases hj
      exact ⟨x', h', t', by rw [if_pos rfl, if_pos (by omega)], hl⟩
    · obtain ⟨x2, h2, t2, h3, h4⟩ := hf.at_ j l2 c2 hj
      exact ⟨x2, h2, t2, by rw [if_neg (by assumption)]; exact h3, h4⟩
  · intro j l2 c2 hj
    rw [List.getElem?_set] at hj
    split at hj
    · subst_vars
      cases hj
      exact hc
    · exact hf.cnt j l2 c2 hj
theorem in_same (hi : S[i]? = some (l, c)) {j : Nat} : InS (S.set i (l, c')) j g ↔ InS S j g := by
  rw [in_set (List.getElem?_eq_some_iff.1 hi).1]
  split
  · subst_vars
    exact ⟨fun h => ⟨l, c, hi, h⟩, fun ⟨l2, c2, h1, h2⟩ => by rw [hi] at h1; cases h1; exact h2⟩
  · rfl
/-- A count turns. -/
theorem SemF.count (hf : SemF rs wm S) (hi : S[i]? = some (l, c)) (hr : rs[i]? = some (x, h, t, c)) (hl : LnF x h t l) (hc : 0 ≤ c' ∧ c' ≤ 1073741824) : SemF (rs.set i (x, h, t, c')) wm (S.set i (l, c')) := by
  have hu : ∀ a b g, InS (S.set i (l, c')) a g → InS (S.set i (l, c')) b g → a = b := fun a b g h1 h2 => hf.uniq a b g ((in_same hi).1 h1) ((in_same hi).1 h2)
  refine hf.set hi hl hc (fun g => ?_) hf.wnd hu
  rw [hf.wh]
  congr 1
  refine (where_of fun k => ?_).symm
  rw [where_iff hu, where_iff hf.uniq]
  exact in_same hi
/-- One more waits. -/
theorem SemF.push (hf : SemF rs wm S) (hi : S[i]? = some (l, c)) {x' : MapO} {h' t' : Int} (hl : LnF x' h' t' (l ++ [y])) (hy : whereOf S y = none) : SemF (rs.set i (x', h', t', c)) (mset wm y (.int .i64 (i : Int))) (S.set i (l ++ [y], c)) := by
  have hil := (List.getElem?_eq_some_iff.1 hi).1
  have hin : ∀ j g, InS (S.set i (l ++ [y], c)) j g ↔ (j = i ∧ g = y) ∨ InS S j g := by
    intro j g
    rw [in_set hil]
    split
    · subst_vars
      rw [List.mem_append, List.mem_singleton]
      constructor
      · rintro (h | h)
        · exact .inr ⟨l, c, hi, h⟩
        · exact .inl ⟨rfl, h⟩
      · rintro (h | ⟨l2, c2, h1, h2⟩)
        · exact .inr h.2
        · rw [hi] at h1; cases h1; exact .inl h2
    · rename_i hj
      exact ⟨.inr, fun h => h.elim (fun h => absurd h.1 hj) id⟩
  have hny := where_none.1 hy
  have hu : ∀ a b g, InS (S.set i (l ++ [y], c)) a g → InS (S.set i (l ++ [y], c)) b g → a = b := by
    intro a b g h1 h2
    rcases (hin _ _).1 h1 with h1 | h1 <;> rcases (hin _ _).1 h2 with h2 | h2
    · omega
    · rw [h1.2] at h2; exact absurd h2 (hny _)
    · rw [h2.2] at h1; exact absurd h1 (hny _)
    · exact hf.uniq _ _ _ h1 h2
  refine hf.set hi hl (hf.cnt i l c hi) (fun g => ?_) (mkeys_mset_nd hf.wnd) hu
  rw [mget_mset, hf.wh]
  split
  · subst_vars
    rw [(where_iff hu).2 ((hin i g).2 (.inl ⟨rfl, rfl⟩))]; rfl
  · rename_i hg
    congr 1
    refine (where_of fun k => ?_).symm
    rw [where_iff hu, where_iff hf.uniq, hin]
    exact ⟨fun h => h.elim (fun h => absurd h.2 hg) id, .inr⟩
/-- One waits no more. -/
theorem SemF.leave (hf : SemF rs wm S) (hi : S[i]? = some (l, c)) {x' : MapO} {h' t' : Int} (hl : LnF x' h' t' (l.erase y)) (hn : l.Nodup) (hy : y ∈ l) : SemF (rs.set i (x', h', t', c)) (mdel wm y) (S.set i (l.erase y, c)) := by
  have hil := (List.getElem?_eq_some_iff.1 hi).1
  have hin : ∀ j g, InS (S.set i (l.erase y, c)) j g ↔ g ≠ y ∧ InS S j g := by
    intro j g
    rw [in_set hil]
    split
    · subst_vars
      rw [hn.mem_erase_iff]
      constructor
      · rintro ⟨h1, h2⟩; exact ⟨h1, l, c, hi, h2⟩
      · rintro ⟨h1, l2, c2, h3, h2⟩
        rw [hi] at h3; cases h3; exact ⟨h1, h2⟩
    · rename_i hj
      refine ⟨fun h => ⟨fun e => ?_, h⟩, fun h => h.2⟩
      subst e
      exact hj (hf.uniq _ _ _ h ⟨l, c, hi, hy⟩)
  have hu : ∀ a b g, InS (S.set i (l.erase y, c)) a g → InS (S.set i (l.erase y, c)) b g → a = b := fun a b g h1 h2 => hf.uniq _ _ _ ((hin _ _).1 h1).2 ((hin _ _).1 h2).2
  refine hf.set hi hl (hf.cnt i l c hi) (fun g => ?_) (by rw [mkeys_mdel]; exact hf.wnd.erase _) hu
  rw [mget_mdel hf.wnd, hf.wh]
  split
  · subst_vars
    rw [where_none.2 fun j h => ((hin _ _).1 h).1 rfl]; rfl
  · rename_i hg
    congr 1
    refine (where_of fun k => ?_).symm
    rw [where_iff hu, where_iff hf.uniq, hin]
    exact ⟨fun h => h.2, fun h => ⟨hg, h⟩⟩
theorem sem_shut (hf : SemF rs wm S) : Ent (SemX p rs S.length bw wm) (SemAt p S) :=
  (Ent.fact_in hf).trans (Ent.ex_in (G := fun x : List RowC × Nat × Assoc => fact (SemF x.1 x.2.2 S) (SemX p x.1 S.length x.2.1 x.2.2)) (rs, bw, wm))
theorem Does.sem (k : ∀ rs bw wm, SemF rs wm S → Does Tryz.prog B f args (SemX p rs S.length bw wm + F) R) : Does Tryz.prog B f args (SemAt p S + F) R := by
  unfold SemAt
  refine Does.ex fun y => Does.fact fun hy => k _ _ _ hy
/-- It is looked at alone. -/
theorem Does.semRead [i : HasAt SemAt H p S F] {v : Value} (k : ∀ rs bw wm, SemF rs wm S → Does Tryz.prog B f args (SemX p rs S.length bw wm + F) fun r H' => H' = SemX p rs S.length bw wm + F ∧ r = v) : Does Tryz.prog B f args H fun r H' => H' = H ∧ r = v := by
  rw [i.eq]
  refine Does.sem fun rs bw wm hf => (k rs bw wm hf).weak fun r H1 ⟨e, hr⟩ => ⟨_, ?_, rfl, hr⟩
  rw [e]
  exact (sem_shut hf).frame_right F
theorem semX_set {r : RowC} (hr : rs[i]? = some r) {x' : MapO} {h' t' c' : Int} {wm' : Assoc} :
    SemX p (rs.set i (x', h', t', c')) n bw wm' = blk p (cellsOf (rs.take i) ++ mapV x' :: .int .i64 h' :: .int .i64 t' :: (.int .i64 c' :: (cellsOf (rs.drop (i + 1)) ++ [.int .i64 (n : Int), .map (some bw)]))) 120 + (mapH x' + (mapsH (rs.take i) + (mapsH (rs.drop (i + 1)) + MapAt bw wm'))) := by
  have hil := (List.getElem?_eq_some_iff.1 hr).1
  rw [semX_row (i := i) (x := x') (h := h') (t := t') (c := c') (by rw [List.getElem?_set, if_pos rfl, if_pos hil])]
  rw [List.take_set_of_le (Nat.le_refl _), List.drop_set_of_lt (by omega)]
end
end Go.Proofs.YtlhnmbajbhaaoaaGreat
namespace Go.Proofs.YtlhnmbajbhaaoaaGreat
open Go Go.SL
set_option linter.unusedSimpArgs false
set_option linter.unusedVariables false
set_option maxRecDepth 10000
set_option maxHeartbeats 1000000
attribute [local irreducible] WP WPL QSeq QBlk QRet Does Cell Cells Rd Mine Ent Aside RV Yield
section
variable {B : World} {F H G : HProp} {p bw n i : Nat} {rs : List RowC} {wm : Assoc} {S : SemS} {k g y c c' h t : Int} {l l' : List Int} {x : MapO}
instance {p n bw : Nat} {rs : List RowC} {wm : Assoc} : HasAt MapAt (SemX p rs n bw wm) bw wm (blk p (cellsOf rs ++ [.int .i64 (n : Int), .map (some bw)]) 120 + mapsH rs) := ⟨by unfold SemX; ac_rfl⟩
theorem semX_wm {wm' : Assoc} : MapAt bw wm' + (blk p (cellsOf rs ++ [.int .i64 (n : Int), .map (some bw)]) 120 + (mapsH rs + F)) = SemX p rs n bw wm' + F := by unfold SemX; ac_rfl
def leaveS (S : SemS) (g : Int) : SemS := match whereOf S g with
  | none => S
  | some i => S.modify i fun r => (r.1.erase g, r.2)
theorem modify_at {α : Type} {L : List α} {i : Nat} {a : α} {f : α → α} (h : L[i]? = some a) : L.modify i f = L.set i (f a) := by
  obtain ⟨hl, rfl⟩ := List.getElem?_eq_some_iff.1 h
  refine List.ext_getElem? fun j => ?_
  rw [List.getElem?_modify, List.getElem?_set]
  by_cases h : i = j
  · subst h; simp [hl]
  · simp [h]
theorem sLeave (hf : SemF rs wm S) : Does Tryz.prog B 115 [.pointer (some ⟨p, 0, none⟩), .int .i64 g] (SemX p rs S.length bw wm + F) fun r H' => ∃ rs' wm', H' = SemX p rs' (leaveS S g).length bw wm' + F ∧ SemF rs' wm' (leaveS S g) ∧ r = .bool (whereOf S g).isSome := by
  have c1 : Cell B (SemX p rs S.length bw wm) p 65 (.map (some bw)) := semX_w hf
  have hi16 := hf.hi
  refine fn_intro 28 Tryz.func115 rfl rfl rfl ?_
  refine walk ?_
  refine s_call rfl (sWhere (g := g) hf) rfl ?_
  rintro _ _ ⟨e_, rfl⟩
  obtain rfl := e_.symm
  refine walk ?_
  unfold leaveS
  cases hw : whereOf S g with
  | none =>
    simp only [Option.getD_none, Option.isSome_none]
    refine walkG ?_
    (first | refine ret1 (v := .bool _) (.inr rfl) rfl rfl ?_ | refine ret1  (.inr rfl) rfl rfl ?_ | refine ret1 (v := .bool _) (.inl rfl) rfl rfl ?_ | refine ret1  (.inl rfl) rfl rfl ?_)
    exact ⟨rs, wm, rfl, hf, rfl⟩
  | some i =>
    obtain ⟨l, c, hs, hg⟩ := where_in hw
    obtain ⟨x, h, t, hr, hl⟩ := hf.at_ i l c hs
    have hil := (List.getElem?_eq_some_iff.1 hs).1
    simp only [Option.getD_some, Option.isSome_some]
    rw [modify_at hs, List.length_set]
    have hnew := fun x' h' t' (hl' : LnF x' h' t' (l.erase g)) => hf.leave hs hl' hl.nd hg
    refine walkG ?_
    refine s_mdel0 (k := g) rfl rfl ?_
    rw [semX_wm]
    refine walkG ?_
    refine s_indexAddrA (j := i) rfl rfl (by omega) (by omega) (o' := 4 * i) (by omega) rfl ?_
    refine walkG ?_
    rw [semX_row hr, ← take_len hr]
    simp only [HProp.add_assoc]
    refine s_call rfl (lnRemove (y := g) hl) rfl ?_
    rintro _ _ ⟨rfl, x', h', t', hl', rfl⟩
    rw [decide_eq_true hg]
    refine walkG ?_
    (first | refine ret1 (v := .bool _) (.inr rfl) rfl rfl ?_ | refine ret1  (.inr rfl) rfl rfl ?_ | refine ret1 (v := .bool _) (.inl rfl) rfl rfl ?_ | refine ret1  (.inl rfl) rfl rfl ?_)
    exact ⟨_, _, by rw [semX_set hr]; simp only [HProp.add_assoc], hnew x' h' t' hl', rfl⟩
theorem s_storeM3 {ro : Option Nat} {P : Program} {ops : Array Oper} {rest : List Oper} {fr : Fr} {Q : Post} {n : Nat} {ty : TypeId} {pos : String} {after : Array Edge} {T e : TypeId} {x y : Operand} {A Z : List Value} {a b c d v : Value} [i : Plain P T] (hx : ev fr x = .pointer (some ⟨p, A.length + 3, none⟩)) [hb : HasBlk H p (A ++ a :: b :: c :: d :: Z) e F] (hy : ev fr y = v) (h1 : v.oneCell' = true)
    (k : WPL ro P B n ops rest fr (blk p (A ++ a :: b :: c :: v :: Z) e + F) Q) : WPL ro P B n ops (⟨none, .store T x y, ty, pos, after, none⟩ :: rest) fr H Q :=
  s_store (cs' := A ++ a :: b :: c :: v :: Z) hx hy h1 (by simp) (by rw [List.set_append_right _ _ (by omega)]; simp) k
def pushS (S : SemS) (i : Nat) (g : Int) : SemS := S.modify i fun r => (r.1 ++ [g], r.2)
def countS (S : SemS) (i : Nat) (c : Int) : SemS := S.modify i fun r => (r.1, c)
/-- What asking does: what is held, whether it came at once, the number of the error. -/
def acqS (S : SemS) (k g : Int) : SemS × Bool × Int :=
  if ¬ (0 ≤ k ∧ k < S.length) then (S, false, 2)
  else if (whereOf S g).isSome then (S, false, 140)
  else match S[k.toNat]? with
    | some (l, c) => if 0 < c then (countS S k.toNat (c - 1), true, 0) else (pushS S k.toNat g, false, 0)
    | none => (S, false, 2)
theorem autoSem35 {p q : Prop} (k : q) (h : Owed q → p := by
  intro k_
  refine walkG ?_
  repeat ((first | (show WPL _ _ _ _ _ (⟨_, .call ⟨.value (.func 102), _, _⟩, _, _, _, none⟩ :: _) _ _ _; (apply s_call; (· exact rfl); (· refine there_spec ?_ <;> (first | assumption | omega | decide | (unfold U32; omega) | exact InH.ent | (apply Rd.ent; (· assumption); (· exact InH.ent)) | exact Rd.nil | (refine Rd.blk0 ?_ ?_; (· rfl); (· simp [maxLen])) | simp)); (· exact rfl); rintro _ _ ⟨e_, rfl⟩; obtain rfl := e_.symm))); refine walkG ?_)
  exact k_.get) : p := h ⟨k⟩
theorem sAcquire (hf : SemF rs wm S) : Does Tryz.prog B 74 [.pointer (some ⟨p, 0, none⟩), .int .i64 k, .int .i64 g] (SemX p rs S.length bw wm + F) fun r H' => ∃ rs' wm', H' = SemX p rs' (acqS S k g).1.length bw wm' + F ∧ SemF rs' wm' (acqS S k g).1 ∧ r = .tuple #[.bool (acqS S k g).2.1, .int .i64 (acqS S k g).2.2] := by
  have c1 : Cell B (SemX p rs S.length bw wm) p 65 (.map (some bw)) := semX_w hf
  have hi16 := hf.hi
  refine fn_intro 56 Tryz.func74 rfl rfl rfl ?_
  refine autoSem35 ?_
  unfold acqS
  refine wp_cond_b rfl (fun h1 => ?_) (fun h1 => ?_) <;> try simp only [decide_eq_true_eq, decide_eq_false_iff_not, Bool.not_eq_true', Bool.not_eq_false', Bool.and_eq_true, Bool.or_eq_true, Bool.or_eq_false_iff] at h1
  · rw [if_pos (by omega)]
    refine autoSem35 ?_
    (first | refine ret2 (v := .bool _) (x := .int _ _) (.inr rfl) rfl rfl rfl ?_ | refine ret2  (.inr rfl) rfl rfl rfl ?_ | refine ret2 (v := .bool _) (x := .int _ _) (.inl rfl) rfl rfl rfl ?_ | refine ret2  (.inl rfl) rfl rfl rfl ?_)
    exact ⟨rs, wm, rfl, hf, rfl⟩
  · obtain ⟨h0, h1⟩ := h1
    have hlt : k.toNat < S.length := by omega
    obtain ⟨l, c, hs⟩ : ∃ l c, S[k.toNat]? = some (l, c) := ⟨_, _, List.getElem?_eq_getElem hlt⟩
    rw [if_neg (by omega), hs]
    obtain ⟨x, h, t, hr, hl⟩ := hf.at_ _ l c hs
    have hcnt := hf.cnt _ _ _ hs
    have c3 : Cell B (SemX p rs S.length bw wm) p (4 * k.toNat + 3) (.int .i64 c) := semX_c hf hs
    refine autoSem35 ?_
    refine s_mget2 rfl rfl (where_get hf).1 (where_get hf).2 rfl ?_
    cases hw : whereOf S g with
    | some i =>
      simp only [Option.isSome_some, if_true]
      refine autoSem35 ?_
      (first | refine ret2 (v := .bool _) (x := .int _ _) (.inr rfl) rfl rfl rfl ?_ | refine ret2  (.inr rfl) rfl rfl rfl ?_ | refine ret2 (v := .bool _) (x := .int _ _) (.inl rfl) rfl rfl rfl ?_ | refine ret2  (.inl rfl) rfl rfl rfl ?_)
      exact ⟨rs, wm, rfl, hf, rfl⟩
    | none =>
      simp only [Option.isSome_none]
      rw [if_neg (by simp)]
      refine autoSem35 ?_
      refine s_indexAddrA (j := k.toNat) rfl rfl rfl (by omega) (o' := 4 * k.toNat) (by omega) rfl ?_
      by_cases hc : 0 < c
      · rw [if_pos hc]
        unfold countS
        rw [modify_at hs, List.length_set]
        refine autoSem35 ?_
        skip
        rw [semX_row hr, ← take_len hr]
        simp only [HProp.add_assoc]
        refine s_storeM3 (v := .int .i64 (c - 1)) rfl rfl rfl ?_
        refine autoSem35 ?_
        (first | refine ret2 (v := .bool _) (x := .int _ _) (.inr rfl) rfl rfl rfl ?_ | refine ret2  (.inr rfl) rfl rfl rfl ?_ | refine ret2 (v := .bool _) (x := .int _ _) (.inl rfl) rfl rfl rfl ?_ | refine ret2  (.inl rfl) rfl rfl rfl ?_)
        exact ⟨rs.set k.toNat (x, h, t, c - 1), wm, by rw [semX_set hr]; simp only [HProp.add_assoc], hf.count hs hr hl (by omega), rfl⟩
      · rw [if_neg hc]
        unfold pushS
        rw [modify_at hs, List.length_set]
        refine autoSem35 ?_
        refine s_mset (v := .int .i64 k) (k := g) rfl rfl rfl ?_
        rw [semX_wm]
        refine autoSem35 ?_
        refine s_buildInts (cs := [.int .i64 g]) rfl rfl rfl rfl rfl ?_
        intro bb
        have hk : ((k.toNat : Nat) : Int) = k := Int.toNat_of_nonneg h0
        have hng : ¬ g ∈ l := fun hg => where_none.1 hw k.toNat ⟨l, c, hs, hg⟩
        have hnew := fun x' h' t' (hl' : LnF x' h' t' (l ++ [g])) => hf.push hs hl' hw
        rw [hk] at hnew
        refine WPL.ent (Ent.ac (show _ = blk p (cellsOf (rs.take k.toNat) ++ mapV x :: .int .i64 h :: .int .i64 t :: (.int .i64 c :: (cellsOf (rs.drop (k.toNat + 1)) ++ [.int .i64 (S.length : Int), .map (some bw)]))) 120 + (mapH x + (blk bb [.int .i64 g] 3 + (mapsH (rs.take k.toNat) + (mapsH (rs.drop (k.toNat + 1)) + (MapAt bw (mset wm g (.int .i64 k)) + F))))) by rw [semX_row hr]; ac_rfl)) ?_
        rw [← take_len hr]
        refine s_call rfl (lnPush (y := g) hl hng (Rd.blk0 rfl (by simp [maxLen]))) rfl ?_
        rintro _ _ ⟨b, m, h', t', rfl, hl', rfl⟩
        refine autoSem35 ?_
        (first | (apply retRD2 (G := (blk p (cellsOf (rs.take k.toNat) ++ .map (some b) :: .int .i64 h' :: .int .i64 t' :: (.int .i64 c :: (cellsOf (rs.drop (k.toNat + 1)) ++ [.int .i64 (S.length : Int), .map (some bw)]))) 120 + (MapAt b m + (mapsH (rs.take k.toNat) + (mapsH (rs.drop (k.toNat + 1)) + (MapAt bw (mset wm g (.int .i64 k)) + F)))))) (.inr rfl) rfl; (· first | (refine rv_tmp (v := .bool _) rfl) | exact rv_tmp rfl); (· first | (refine rv_tmp (v := .int _ _) rfl) | exact rv_tmp rfl); (· exact Ent.auto)) | (apply retRD2 (G := (blk p (cellsOf (rs.take k.toNat) ++ .map (some b) :: .int .i64 h' :: .int .i64 t' :: (.int .i64 c :: (cellsOf (rs.drop (k.toNat + 1)) ++ [.int .i64 (S.length : Int), .map (some bw)]))) 120 + (MapAt b m + (mapsH (rs.take k.toNat) + (mapsH (rs.drop (k.toNat + 1)) + (MapAt bw (mset wm g (.int .i64 k)) + F)))))) (.inl rfl) rfl; (· first | (refine rv_tmp (v := .bool _) rfl) | exact rv_tmp rfl); (· first | (refine rv_tmp (v := .int _ _) rfl) | exact rv_tmp rfl); (· exact Ent.auto)))
        exact ⟨rs.set k.toNat (some (b, m), h', t', c), _, by rw [semX_set hr]; simp only [HProp.add_assoc, mapV, mapH], hnew _ _ _ hl', rfl⟩
/-- What giving back does: what is held, who goes on, whether one does, the number of the error. -/
def relS (S : SemS) (k : Int) : SemS × Int × Bool × Int :=
  if ¬ (0 ≤ k ∧ k < S.length) then (S, 0, false, 2)
  else match S[k.toNat]? with
    | some (g :: l, c) => (S.set k.toNat (l, c), g, true, 0)
    | some ([], c) => if c = 1073741824 then (S, 0, false, 3) else (countS S k.toNat (c + 1), 0, false, 0)
    | none => (S, 0, false, 2)
theorem autoSem37 {p q : Prop} (k : q) (h : Owed q → p := by
  intro k_
  refine walkG ?_
  repeat ((first | (show WPL _ _ _ _ _ (⟨_, .call ⟨.value (.func 102), _, _⟩, _, _, _, none⟩ :: _) _ _ _; (apply s_call; (· exact rfl); (· refine there_spec ?_ <;> (first | assumption | omega | decide | (unfold U32; omega) | exact InH.ent | (apply Rd.ent; (· assumption); (· exact InH.ent)) | exact Rd.nil | (refine Rd.blk0 ?_ ?_; (· rfl); (· simp [maxLen])) | simp)); (· exact rfl); rintro _ _ ⟨e_, rfl⟩; obtain rfl := e_.symm))); refine walkG ?_)
  exact k_.get) : p := h ⟨k⟩
theorem sRelease (hf : SemF rs wm S) : Does Tryz.prog B 80 [.pointer (some ⟨p, 0, none⟩), .int .i64 k] (SemX p rs S.length bw wm + F) fun r H' => ∃ rs' wm', H' = SemX p rs' (relS S k).1.length bw wm' + F ∧ SemF rs' wm' (relS S k).1 ∧ r = .tuple #[.int .i64 (relS S k).2.1, .bool (relS S k).2.2.1, .int .i64 (relS S k).2.2.2] := by
  have hi16 := hf.hi
  refine fn_intro 47 Tryz.func80 rfl rfl rfl ?_
  refine autoSem37 ?_
  unfold relS
  refine wp_cond_b rfl (fun h1 => ?_) (fun h1 => ?_) <;> try simp only [decide_eq_true_eq, decide_eq_false_iff_not, Bool.not_eq_true', Bool.not_eq_false', Bool.and_eq_true, Bool.or_eq_true, Bool.or_eq_false_iff] at h1
  · rw [if_pos (by omega)]
    refine autoSem37 ?_
    (first | refine ret3 (v := .int _ _) (x := .bool _) (y := .int _ _) (.inr rfl) rfl rfl rfl rfl ?_ | refine ret3  (.inr rfl) rfl rfl rfl rfl ?_ | refine ret3 (v := .int _ _) (x := .bool _) (y := .int _ _) (.inl rfl) rfl rfl rfl rfl ?_ | refine ret3  (.inl rfl) rfl rfl rfl rfl ?_)
    exact ⟨rs, wm, rfl, hf, rfl⟩
  · obtain ⟨h0, h1⟩ := h1
    have hlt : k.toNat < S.length := by omega
    obtain ⟨l, c, hs⟩ : ∃ l c, S[k.toNat]? = some (l, c) := ⟨_, _, List.getElem?_eq_getElem hlt⟩
    rw [if_neg (by omega), hs]
    obtain ⟨x, h, t, hr, hl⟩ := hf.at_ _ l c hs
    have hcnt := hf.cnt _ _ _ hs
    have c3 : Cell B (SemX p rs S.length bw wm) p (4 * k.toNat + 3) (.int .i64 c) := semX_c hf hs
    refine autoSem37 ?_
    refine s_indexAddrA (j := k.toNat) rfl rfl rfl (by omega) (o' := 4 * k.toNat) (by omega) rfl ?_
    refine autoSem37 ?_
    refine s_call rfl (lnHead (semX_ln hf hs)) rfl ?_
    rintro _ _ ⟨rfl, y, hy, rfl⟩
    cases l with
    | nil =>
      simp only [List.length_nil, show decide (0 < 0) = false from rfl]
      by_cases hc : c = 1073741824
      · simp only [if_pos hc]
        refine autoSem37 ?_
        (first | refine ret3 (v := .int _ _) (x := .bool _) (y := .int _ _) (.inr rfl) rfl rfl rfl rfl ?_ | refine ret3  (.inr rfl) rfl rfl rfl rfl ?_ | refine ret3 (v := .int _ _) (x := .bool _) (y := .int _ _) (.inl rfl) rfl rfl rfl rfl ?_ | refine ret3  (.inl rfl) rfl rfl rfl rfl ?_)
        exact ⟨rs, wm, rfl, hf, rfl⟩
      · simp only [if_neg hc]
        unfold countS
        rw [modify_at hs, List.length_set]
        refine autoSem37 ?_
        skip
        rw [semX_row hr, ← take_len hr]
        simp only [HProp.add_assoc]
        refine s_storeM3 (v := .int .i64 (c + 1)) rfl rfl rfl ?_
        refine autoSem37 ?_
        (first | refine ret3 (v := .int _ _) (x := .bool _) (y := .int _ _) (.inr rfl) rfl rfl rfl rfl ?_ | refine ret3  (.inr rfl) rfl rfl rfl rfl ?_ | refine ret3 (v := .int _ _) (x := .bool _) (y := .int _ _) (.inl rfl) rfl rfl rfl rfl ?_ | refine ret3  (.inl rfl) rfl rfl rfl rfl ?_)
        exact ⟨rs.set k.toNat (x, h, t, c + 1), wm, by rw [semX_set hr]; simp only [HProp.add_assoc], hf.count hs hr hl (by omega), rfl⟩
    | cons g l =>
      obtain rfl : g = y := by have := hy (by simp); simpa using this
      have hd : decide (0 < (g :: l).length) = true := by simp
      rw [hd]
      have hw : whereOf S g = some k.toNat := (where_iff hf.uniq).2 ⟨_, _, hs, by simp⟩
      refine autoSem37 ?_
      skip
      refine s_call rfl (sLeave (g := g) hf) rfl ?_
      have e : leaveS S g = S.set k.toNat (l, c) := by
        unfold leaveS
        rw [hw]
        simp only
        rw [modify_at hs]
        simp
      rw [e]
      rintro _ _ ⟨rs', wm', rfl, hf', rfl⟩
      refine autoSem37 ?_
      (first | refine ret3 (v := .int _ _) (x := .bool _) (y := .int _ _) (.inr rfl) rfl rfl rfl rfl ?_ | refine ret3  (.inr rfl) rfl rfl rfl rfl ?_ | refine ret3 (v := .int _ _) (x := .bool _) (y := .int _ _) (.inl rfl) rfl rfl rfl rfl ?_ | refine ret3  (.inl rfl) rfl rfl rfl rfl ?_)
      exact ⟨rs', wm', rfl, hf', rfl⟩
end
end Go.Proofs.YtlhnmbajbhaaoaaGreat
namespace Go.Proofs.YtlhnmbajbhaaoaaGreat
open Go Go.SL
set_option linter.unusedSimpArgs false
set_option linter.unusedVariables false
set_option maxRecDepth 10000
set_option maxHeartbeats 1000000
attribute [local irreducible] WP WPL QSeq QBlk QRet Does Cell Cells Rd Mine Ent Aside RV Yield
section
variable {B : World} {F H G : HProp} {n c : Int}
abbrev rowZ (c : Int) : RowC := (none, 0, 0, c)
def newS (n : Nat) (c : Int) : SemS := List.replicate n ([], c)
theorem newF {m : Nat} (h1 : 1 ≤ m) (h2 : m ≤ 16) (hc : 0 ≤ c ∧ c ≤ 1073741824) : SemF (List.replicate m (rowZ c) ++ List.replicate (16 - m) (rowZ 0)) [] (newS m c) := by
  have hin : ∀ i g, ¬ InS (newS m c) i g := by
    rintro i g ⟨l, c', h, hg⟩
    have := List.mem_of_getElem? h
    rw [newS, List.mem_replicate] at this
    have := this.2
    cases this
    cases hg
  refine ⟨by simp [newS]; omega, by simp [newS]; omega, by simp; omega, ?_, ?_, by simp [mkeys], ?_, ?_⟩
  · intro i l c' h
    have hi : i < m := by have := (List.getElem?_eq_some_iff.1 h).1; simpa [newS] using this
    rw [newS, List.getElem?_replicate, if_pos hi] at h
    cases h
    exact ⟨none, 0, 0, by rw [List.getElem?_append_left (by simpa using hi), List.getElem?_replicate, if_pos hi], rfl⟩
  · intro g
    rw [where_none.2 fun i => hin i g]
    rfl
  · intro i l c' h
    have hi : i < m := by have := (List.getElem?_eq_some_iff.1 h).1; simpa [newS] using this
    rw [newS, List.getElem?_replicate, if_pos hi] at h
    cases h
    exact hc
  · intro i j g h _
    exact absurd h (hin i g)
theorem mapsZ (a b : Nat) : mapsH (List.replicate a (rowZ c) ++ List.replicate b (rowZ 0)) = emp := by
  have e : ∀ (a : Nat) (c : Int), mapsH (List.replicate a (rowZ c)) = emp := by
    intro a c
    induction a with
    | zero => rfl
    | succ a ih => rw [List.replicate_succ]; show emp + _ = _; rw [ih, HProp.emp_add]
  rw [maps_app, e, e, HProp.emp_add]
theorem sNew (h1 : 1 ≤ n) (h2 : n ≤ 16) (hc : 0 ≤ c ∧ c ≤ 1073741824) : Does Tryz.prog B 33 [.int .i64 n, .int .i64 c] H fun r H' => ∃ p, H' = SemAt p (newS n.toNat c) + H ∧ r = .tuple #[.pointer (some ⟨p, 0, none⟩), .int .i64 0] := by
  refine fn_intro 44 Tryz.func33 rfl rfl rfl ?_
  refine walkG ?_
  repeat ((first | (show WPL _ _ _ _ _ (⟨_, .box _ _, _, _, _, none⟩ :: _) _ _ _; (first | refine s_box (v := .int _ _) rfl rfl rfl ?_ | refine s_box (v := .pointer _) rfl rfl rfl ?_ | refine s_box (v := .slice _ _ _) rfl rfl rfl ?_ | refine s_box (v := .bool _) rfl rfl rfl ?_ | refine s_box (v := .agg _) rfl rfl rfl ?_ | refine s_box (v := .string _) rfl rfl rfl ?_ | refine s_box (v := .func _ _ _) rfl rfl rfl ?_ | refine s_box (v := .float _ _) rfl rfl rfl ?_); intro _)); refine walkG ?_)
  refine s_makeMap rfl ?_
  intro b
  refine walkG ?_
  repeat ((first | (show WPL _ _ _ _ _ (⟨_, .box _ _, _, _, _, none⟩ :: _) _ _ _; (first | refine s_box (v := .int _ _) rfl rfl rfl ?_ | refine s_box (v := .pointer _) rfl rfl rfl ?_ | refine s_box (v := .slice _ _ _) rfl rfl rfl ?_ | refine s_box (v := .bool _) rfl rfl rfl ?_ | refine s_box (v := .agg _) rfl rfl rfl ?_ | refine s_box (v := .string _) rfl rfl rfl ?_ | refine s_box (v := .func _ _ _) rfl rfl rfl ?_ | refine s_box (v := .float _ _) rfl rfl rfl ?_); intro _)); refine walkG ?_)
  (refine s_build (cs := (cellsOf (List.replicate 16 (rowZ 0)) ++ [.int .i64 n, .map (some b)])) ?_ rfl ?_; (· kernel_rfl))
  refine s_box (cs := cellsOf (List.replicate 16 (rowZ 0)) ++ [.int .i64 n, .map (some b)]) rfl rfl rfl ?_
  intro p
  refine walkG ?_
  repeat ((first | (show WPL _ _ _ _ _ (⟨_, .box _ _, _, _, _, none⟩ :: _) _ _ _; (first | refine s_box (v := .int _ _) rfl rfl rfl ?_ | refine s_box (v := .pointer _) rfl rfl rfl ?_ | refine s_box (v := .slice _ _ _) rfl rfl rfl ?_ | refine s_box (v := .bool _) rfl rfl rfl ?_ | refine s_box (v := .agg _) rfl rfl rfl ?_ | refine s_box (v := .string _) rfl rfl rfl ?_ | refine s_box (v := .func _ _ _) rfl rfl rfl ?_ | refine s_box (v := .float _ _) rfl rfl rfl ?_); intro _)); refine walkG ?_)
  refine s_sliceArrH (h := n.toNat) rfl rfl (by omega) (by omega) rfl ?_
  refine walkG ?_
  repeat ((first | (show WPL _ _ _ _ _ (⟨_, .box _ _, _, _, _, none⟩ :: _) _ _ _; (first | refine s_box (v := .int _ _) rfl rfl rfl ?_ | refine s_box (v := .pointer _) rfl rfl rfl ?_ | refine s_box (v := .slice _ _ _) rfl rfl rfl ?_ | refine s_box (v := .bool _) rfl rfl rfl ?_ | refine s_box (v := .agg _) rfl rfl rfl ?_ | refine s_box (v := .string _) rfl rfl rfl ?_ | refine s_box (v := .func _ _ _) rfl rfl rfl ?_ | refine s_box (v := .float _ _) rfl rfl rfl ?_); intro _)); refine walkG ?_)
  refine wp_loopF (α := Nat) [7, 32, 33, 34, 35, 36, 37, 38, 39, 40, 41, 42] (fun i => [(32, .int .i64 (i : Nat))]) (fun i => blk p (cellsOf (List.replicate i (rowZ c) ++ List.replicate (16 - i) (rowZ 0)) ++ [.int .i64 n, .map (some b)]) 120 + (MapAt b [] + H)) (fun i => i ≤ n.toNat) (fun i => n.toNat - i) 0 agreed (Ent.refl _) (Nat.zero_le _) ?_
  rintro i g hi
  simp only [putAll]
  have hn : ((n.toNat : Nat) : Int) = n := Int.toNat_of_nonneg (by omega)
  by_cases hlt : i < n.toNat
  · have e : cellsOf (List.replicate i (rowZ c) ++ List.replicate (16 - i) (rowZ 0)) ++ [.int .i64 n, .map (some b)] = cellsOf (List.replicate i (rowZ c)) ++ .map none :: .int .i64 0 :: .int .i64 0 :: .int .i64 0 :: (cellsOf (List.replicate (15 - i) (rowZ 0)) ++ [.int .i64 n, .map (some b)]) := by
      rw [show 16 - i = (15 - i) + 1 by omega, List.replicate_succ, cells_app]
      simp only [cellsOf, rowV, mapV, List.append_assoc, List.cons_append, List.nil_append]
    have e2 : cellsOf (List.replicate (i + 1) (rowZ c) ++ List.replicate (16 - (i + 1)) (rowZ 0)) ++ [.int .i64 n, .map (some b)] = cellsOf (List.replicate i (rowZ c)) ++ .map none :: .int .i64 0 :: .int .i64 0 :: .int .i64 c :: (cellsOf (List.replicate (15 - i) (rowZ 0)) ++ [.int .i64 n, .map (some b)]) := by
      rw [show 16 - (i + 1) = 15 - i by omega, List.replicate_succ', cells_app, cells_app]
      simp only [cellsOf, rowV, mapV, List.append_assoc, List.cons_append, List.nil_append]
    have el : (cellsOf (List.replicate i (rowZ c))).length = 4 * i := by rw [cells_len, List.length_replicate]
    rw [e]
    refine walkG ?_
    repeat ((first | (show WPL _ _ _ _ _ (⟨_, .box _ _, _, _, _, none⟩ :: _) _ _ _; (first | refine s_box (v := .int _ _) rfl rfl rfl ?_ | refine s_box (v := .pointer _) rfl rfl rfl ?_ | refine s_box (v := .slice _ _ _) rfl rfl rfl ?_ | refine s_box (v := .bool _) rfl rfl rfl ?_ | refine s_box (v := .agg _) rfl rfl rfl ?_ | refine s_box (v := .string _) rfl rfl rfl ?_ | refine s_box (v := .func _ _ _) rfl rfl rfl ?_ | refine s_box (v := .float _ _) rfl rfl rfl ?_); intro _)); refine walkG ?_)
    refine s_indexAddrA (j := i) rfl rfl (by omega) (by omega) (o' := 4 * i) (by omega) rfl ?_
    rw [← el]
    refine walkG ?_
    repeat ((first | (show WPL _ _ _ _ _ (⟨_, .box _ _, _, _, _, none⟩ :: _) _ _ _; (first | refine s_box (v := .int _ _) rfl rfl rfl ?_ | refine s_box (v := .pointer _) rfl rfl rfl ?_ | refine s_box (v := .slice _ _ _) rfl rfl rfl ?_ | refine s_box (v := .bool _) rfl rfl rfl ?_ | refine s_box (v := .agg _) rfl rfl rfl ?_ | refine s_box (v := .string _) rfl rfl rfl ?_ | refine s_box (v := .func _ _ _) rfl rfl rfl ?_ | refine s_box (v := .float _ _) rfl rfl rfl ?_); intro _)); refine walkG ?_)
    refine s_storeM3 (v := .int .i64 c) rfl rfl rfl ?_
    refine walkG ?_
    repeat ((first | (show WPL _ _ _ _ _ (⟨_, .box _ _, _, _, _, none⟩ :: _) _ _ _; (first | refine s_box (v := .int _ _) rfl rfl rfl ?_ | refine s_box (v := .pointer _) rfl rfl rfl ?_ | refine s_box (v := .slice _ _ _) rfl rfl rfl ?_ | refine s_box (v := .bool _) rfl rfl rfl ?_ | refine s_box (v := .agg _) rfl rfl rfl ?_ | refine s_box (v := .string _) rfl rfl rfl ?_ | refine s_box (v := .func _ _ _) rfl rfl rfl ?_ | refine s_box (v := .float _ _) rfl rfl rfl ?_); intro _)); refine walkG ?_)
    exact ⟨i + 1, asided, agreed, by rw [e2]; exact Ent.refl _, hlt, by omega⟩
  · have hie : i = n.toNat := by omega
    subst hie
    refine walkG ?_
    repeat ((first | (show WPL _ _ _ _ _ (⟨_, .box _ _, _, _, _, none⟩ :: _) _ _ _; (first | refine s_box (v := .int _ _) rfl rfl rfl ?_ | refine s_box (v := .pointer _) rfl rfl rfl ?_ | refine s_box (v := .slice _ _ _) rfl rfl rfl ?_ | refine s_box (v := .bool _) rfl rfl rfl ?_ | refine s_box (v := .agg _) rfl rfl rfl ?_ | refine s_box (v := .string _) rfl rfl rfl ?_ | refine s_box (v := .func _ _ _) rfl rfl rfl ?_ | refine s_box (v := .float _ _) rfl rfl rfl ?_); intro _)); refine walkG ?_)
    refine QRet.ent (G := SemAt p (newS n.toNat c) + H) ?_ ?_
    · refine Ent.trans (Ent.ac ?_) ((sem_shut (bw := b) (newF (m := n.toNat) (c := c) (by omega) (by omega) hc)).frame_right H)
      unfold SemX
      rw [mapsZ, HProp.emp_add, HProp.add_assoc]
      simp only [newS, List.length_replicate, hn]
    · (first | refine ret2 (v := .pointer _) (x := .int _ _) (.inr rfl) rfl rfl rfl ?_ | refine ret2  (.inr rfl) rfl rfl rfl ?_ | refine ret2 (v := .pointer _) (x := .int _ _) (.inl rfl) rfl rfl rfl ?_ | refine ret2  (.inl rfl) rfl rfl rfl ?_)
      exact ⟨p, rfl, rfl⟩
end
end Go.Proofs.YtlhnmbajbhaaoaaGreat
namespace Go.Proofs.YtlhnmbajbhaaoaaGreat
open Go Go.SL
set_option linter.unusedSimpArgs false
set_option linter.unusedVariables false
set_option maxRecDepth 10000
set_option maxHeartbeats 2000000
section
variable {B : World} {F H G : HProp} {p p2 i j : Nat} {S S' : SemS} {k g c : Int} {l : List Int} {w : World}
end
attribute [local irreducible] WP WPL QSeq QBlk QRet Does Cell Cells Rd Mine Ent Aside RV Yield SemAt
section
variable {B : World} {F H G : HProp} {p p2 i j : Nat} {S S' : SemS} {k g c : Int} {l : List Int} {w : World}
abbrev LOk (S : SemS) : Prop := ∀ (i : Nat) (l : List Int) (c : Int), S[i]? = some (l, c) → l.length ≤ 1000000
theorem sCountA [HasAt SemAt H p S F] : Does Tryz.prog B 44 [.pointer (some ⟨p, 0, none⟩), .int .i64 k] H fun r H' => H' = H ∧ r = .int .i64 (if 0 ≤ k then (S[k.toNat]?.map (·.2)).getD (-1) else -1) := Does.semRead (p := p) (S := S) fun rs bw wm hf => sCount hf
theorem sWaitingA [i : HasAt SemAt H p S F] (hb : LOk S) : Does Tryz.prog B 45 [.pointer (some ⟨p, 0, none⟩), .int .i64 k] H fun r H' => H' = Mine 3 1 r (rowS S k).length (zs (rowS S k)) + H := by
  rw [i.eq]
  refine Does.sem fun rs bw wm hf => (sWaiting hf hb).weak fun r H1 e => ⟨_, ?_, rfl⟩
  rw [e]
  exact ((sem_shut hf).frame_right F).frame_left _
theorem sAcquireA [a : HasAt SemAt H p S F] : Does Tryz.prog B 74 [.pointer (some ⟨p, 0, none⟩), .int .i64 k, .int .i64 g] H fun r H' => H' = SemAt p (acqS S k g).1 + F ∧ r = .tuple #[.bool (acqS S k g).2.1, .int .i64 (acqS S k g).2.2] := by
  rw [a.eq]
  refine Does.sem fun rs bw wm hf => (sAcquire hf).weak fun r H1 ⟨rs', wm', e, hf', hr⟩ => ⟨_, ?_, rfl, hr⟩
  rw [e]
  exact (sem_shut hf').frame_right F
theorem sReleaseA [a : HasAt SemAt H p S F] : Does Tryz.prog B 80 [.pointer (some ⟨p, 0, none⟩), .int .i64 k] H fun r H' => H' = SemAt p (relS S k).1 + F ∧ r = .tuple #[.int .i64 (relS S k).2.1, .bool (relS S k).2.2.1, .int .i64 (relS S k).2.2.2] := by
  rw [a.eq]
  refine Does.sem fun rs bw wm hf => (sRelease hf).weak fun r H1 ⟨rs', wm', e, hf', hr⟩ => ⟨_, ?_, rfl, hr⟩
  rw [e]
  exact (sem_shut hf').frame_right F
end
end Go.Proofs.YtlhnmbajbhaaoaaGreat
namespace Go.Proofs.YtlhnmbajbhaaoaaGreat
open Go Go.SL
set_option linter.unusedSimpArgs false
set_option linter.unusedVariables false
set_option maxRecDepth 10000
set_option maxHeartbeats 1000000
structure Cfg where
  n : Int
  q : Int
  g : Int
  m : Int
  t : Int
  s : Int
deriving DecidableEq
abbrev cv (c : Cfg) : List Value := [.int .i64 c.n, .int .i64 c.q, .int .i64 c.g, .int .i64 c.m, .int .i64 c.t, .int .i64 c.s]
abbrev cfgV (c : Cfg) : Value := .agg (cv c).toArray
def RoomP (q : Int) : Prop := q = 2 ∨ q = 4 ∨ q = 8 ∨ q = 16 ∨ q = 32 ∨ q = 64
instance (q : Int) : Decidable (RoomP q) := inferInstanceAs (Decidable (q = 2 ∨ q = 4 ∨ q = 8 ∨ q = 16 ∨ q = 32 ∨ q = 64))
def RightP (c : Cfg) : Prop := RoomP c.q ∧ 1 ≤ c.n ∧ c.n ≤ 8 ∧ 1 ≤ c.g ∧ c.g ≤ 256 ∧ c.n < c.m ∧ c.m ≤ 16 ∧ 2 ≤ c.t ∧ c.t ≤ 200 ∧ 0 ≤ c.s ∧ c.s ≤ 1000
instance (c : Cfg) : Decidable (RightP c) := by unfold RightP; exact inferInstance
theorem room_and : ∀ k : Nat, k ≤ 64 → 2 ≤ k → ((k &&& (k - 1)) = 0 ↔ (k = 2 ∨ k = 4 ∨ k = 8 ∨ k = 16 ∨ k = 32 ∨ k = 64)) := by decide
attribute [local irreducible] WP WPL QSeq QBlk QRet Does Cell Cells Rd Mine Ent Aside RV Yield
section
variable {B : World} {F H G : HProp} {c : Cfg} {x lo hi p : Int}
theorem within_t (h : lo ≤ x ∧ x ≤ hi) : Does Tryz.prog B 30 [.int .i64 x, .int .i64 lo, .int .i64 hi] H fun r H' => H' = H ∧ r = .bool true := by
  refine fn_intro 15 Tryz.func30 rfl rfl rfl ?_
  refine walk ?_
  (first | refine ret1 (v := .bool _) (.inr rfl) rfl rfl ?_ | refine ret1  (.inr rfl) rfl rfl ?_ | refine ret1 (v := .bool _) (.inl rfl) rfl rfl ?_ | refine ret1  (.inl rfl) rfl rfl ?_)
  exact ⟨rfl, rfl⟩
theorem within_f (h : ¬ (lo ≤ x ∧ x ≤ hi)) : Does Tryz.prog B 30 [.int .i64 x, .int .i64 lo, .int .i64 hi] H fun r H' => H' = H ∧ r = .bool false := by
  refine fn_intro 15 Tryz.func30 rfl rfl rfl ?_
  by_cases h1 : lo ≤ x
  · refine walk ?_
    (first | refine ret1 (v := .bool _) (.inr rfl) rfl rfl ?_ | refine ret1  (.inr rfl) rfl rfl ?_ | refine ret1 (v := .bool _) (.inl rfl) rfl rfl ?_ | refine ret1  (.inl rfl) rfl rfl ?_)
    exact ⟨rfl, rfl⟩
  · refine walk ?_
    (first | refine ret1 (v := .bool _) (.inr rfl) rfl rfl ?_ | refine ret1  (.inr rfl) rfl rfl ?_ | refine ret1 (v := .bool _) (.inl rfl) rfl rfl ?_ | refine ret1  (.inl rfl) rfl rfl ?_)
    exact ⟨rfl, rfl⟩
theorem right_no (h : ¬ RightP c) : decide (RightP c) = false := decide_eq_false h
theorem cRight : Does Tryz.prog B 6 [cfgV c] H fun r H' => H' = H ∧ r = .bool (decide (RightP c)) := by
  refine Does.frame0 ?_
  refine fn_intro 43 Tryz.func6 rfl rfl rfl ?_
  refine walk ?_
  refine s_box (cs := cv c) rfl rfl rfl ?_
  intro b
  refine walk ?_
  by_cases hn : 1 ≤ c.n ∧ c.n ≤ 8
  · refine s_call rfl (within_t hn) rfl ?_
    rintro _ _ ⟨e_, rfl⟩
    obtain rfl := e_.symm
    refine walk ?_
    by_cases hq : 2 ≤ c.q ∧ c.q ≤ 64
    · refine s_call rfl (within_t hq) rfl ?_
      rintro _ _ ⟨e_, rfl⟩
      obtain rfl := e_.symm
      refine walk ?_
      obtain ⟨kq, hkq⟩ := Int.eq_ofNat_of_zero_le (show 0 ≤ c.q by omega)
      have hand := room_and kq (by omega) (by omega)
      refine s_and (p := c.q) (q := c.q - 1) (r := (kq &&& (kq - 1))) rfl rfl ?_ ?_ ?_ ?_ rfl ?_
      · show 0 ≤ c.q ∧ c.q < 18446744073709551616; omega
      · show 0 ≤ c.q - 1 ∧ c.q - 1 < 18446744073709551616; omega
      · rw [hkq]; congr 1; omega
      · refine intI64 ?_; have : kq &&& (kq - 1) ≤ kq := Nat.and_le_left; omega
      by_cases hr : RoomP c.q
      · have hz : (kq &&& (kq - 1)) = 0 := hand.2 (by unfold RoomP at hr; omega)
        rw [hz]
        refine walk ?_
        by_cases hg : 1 ≤ c.g ∧ c.g ≤ 256
        · refine s_call rfl (within_t hg) rfl ?_
          rintro _ _ ⟨e_, rfl⟩
          obtain rfl := e_.symm
          refine walk ?_
          by_cases hm : c.n + 1 ≤ c.m ∧ c.m ≤ 16
          · refine s_call rfl (within_t hm) rfl ?_
            rintro _ _ ⟨e_, rfl⟩
            obtain rfl := e_.symm
            refine walk ?_
            by_cases ht : 2 ≤ c.t ∧ c.t ≤ 200
            · refine s_call rfl (within_t ht) rfl ?_
              rintro _ _ ⟨e_, rfl⟩
              obtain rfl := e_.symm
              refine walk ?_
              by_cases hs : 0 ≤ c.s ∧ c.s ≤ 1000
              · refine s_call rfl (within_t hs) rfl ?_
                rintro _ _ ⟨e_, rfl⟩
                obtain rfl := e_.symm
                refine walk ?_
                (first | (apply retRD1 (G := H) (.inr rfl) rfl; (· first | (refine rv_tmp (v := .bool _) rfl) | exact rv_tmp rfl); (· exact Ent.auto)) | (apply retRD1 (G := H) (.inl rfl) rfl; (· first | (refine rv_tmp (v := .bool _) rfl) | exact rv_tmp rfl); (· exact Ent.auto)))
                exact ⟨Ent.refl _, by rw [decide_eq_true (show RightP c from ⟨hr, hn.1, hn.2, hg.1, hg.2, by omega, hm.2, ht.1, ht.2, hs.1, hs.2⟩)]⟩
              · refine s_call rfl (within_f hs) rfl ?_
                rintro _ _ ⟨e_, rfl⟩
                obtain rfl := e_.symm
                refine walk ?_
                (first | (apply retRD1 (G := H) (.inr rfl) rfl; (· first | (refine rv_tmp (v := .bool _) rfl) | exact rv_tmp rfl); (· exact Ent.auto)) | (apply retRD1 (G := H) (.inl rfl) rfl; (· first | (refine rv_tmp (v := .bool _) rfl) | exact rv_tmp rfl); (· exact Ent.auto)))
                exact ⟨Ent.refl _, by rw [right_no fun h => hs (by obtain ⟨_, _, _, _, _, _, _, _, _, h10⟩ := h; omega)]⟩
            · refine s_call rfl (within_f ht) rfl ?_
              rintro _ _ ⟨e_, rfl⟩
              obtain rfl := e_.symm
              refine walk ?_
              (first | (apply retRD1 (G := H) (.inr rfl) rfl; (· first | (refine rv_tmp (v := .bool _) rfl) | exact rv_tmp rfl); (· exact Ent.auto)) | (apply retRD1 (G := H) (.inl rfl) rfl; (· first | (refine rv_tmp (v := .bool _) rfl) | exact rv_tmp rfl); (· exact Ent.auto)))
              exact ⟨Ent.refl _, by rw [right_no fun h => ht (by obtain ⟨_, _, _, _, _, _, _, h8, h9, _⟩ := h; omega)]⟩
          · refine s_call rfl (within_f hm) rfl ?_
            rintro _ _ ⟨e_, rfl⟩
            obtain rfl := e_.symm
            refine walk ?_
            (first | (apply retRD1 (G := H) (.inr rfl) rfl; (· first | (refine rv_tmp (v := .bool _) rfl) | exact rv_tmp rfl); (· exact Ent.auto)) | (apply retRD1 (G := H) (.inl rfl) rfl; (· first | (refine rv_tmp (v := .bool _) rfl) | exact rv_tmp rfl); (· exact Ent.auto)))
            exact ⟨Ent.refl _, by rw [right_no fun h => hm (by obtain ⟨_, _, _, _, _, h6, h7, _⟩ := h; omega)]⟩
        · refine s_call rfl (within_f hg) rfl ?_
          rintro _ _ ⟨e_, rfl⟩
          obtain rfl := e_.symm
          refine walk ?_
          (first | (apply retRD1 (G := H) (.inr rfl) rfl; (· first | (refine rv_tmp (v := .bool _) rfl) | exact rv_tmp rfl); (· exact Ent.auto)) | (apply retRD1 (G := H) (.inl rfl) rfl; (· first | (refine rv_tmp (v := .bool _) rfl) | exact rv_tmp rfl); (· exact Ent.auto)))
          exact ⟨Ent.refl _, by rw [right_no fun h => hg ⟨h.2.2.2.1, h.2.2.2.2.1⟩]⟩
      · have hz : (kq &&& (kq - 1)) ≠ 0 := fun h => hr (by have := hand.1 h; unfold RoomP; omega)
        refine walk ?_
        (first | (apply retRD1 (G := H) (.inr rfl) rfl; (· first | (refine rv_tmp (v := .bool _) rfl) | exact rv_tmp rfl); (· exact Ent.auto)) | (apply retRD1 (G := H) (.inl rfl) rfl; (· first | (refine rv_tmp (v := .bool _) rfl) | exact rv_tmp rfl); (· exact Ent.auto)))
        exact ⟨Ent.refl _, by rw [right_no fun h => hr h.1]⟩
    · refine s_call rfl (within_f hq) rfl ?_
      rintro _ _ ⟨e_, rfl⟩
      obtain rfl := e_.symm
      refine walk ?_
      (first | (apply retRD1 (G := H) (.inr rfl) rfl; (· first | (refine rv_tmp (v := .bool _) rfl) | exact rv_tmp rfl); (· exact Ent.auto)) | (apply retRD1 (G := H) (.inl rfl) rfl; (· first | (refine rv_tmp (v := .bool _) rfl) | exact rv_tmp rfl); (· exact Ent.auto)))
      exact ⟨Ent.refl _, by rw [right_no fun h => hq (by have := h.1; unfold RoomP at this; omega)]⟩
  · refine s_call rfl (within_f hn) rfl ?_
    rintro _ _ ⟨e_, rfl⟩
    obtain rfl := e_.symm
    refine walk ?_
    (first | (apply retRD1 (G := H) (.inr rfl) rfl; (· first | (refine rv_tmp (v := .bool _) rfl) | exact rv_tmp rfl); (· exact Ent.auto)) | (apply retRD1 (G := H) (.inl rfl) rfl; (· first | (refine rv_tmp (v := .bool _) rfl) | exact rv_tmp rfl); (· exact Ent.auto)))
    exact ⟨Ent.refl _, by rw [right_no fun h => hn ⟨h.2.1, h.2.2.1⟩]⟩
end
end Go.Proofs.YtlhnmbajbhaaoaaGreat
namespace Go.Proofs.YtlhnmbajbhaaoaaGreat
open Go Go.SL
set_option linter.unusedSimpArgs false
set_option linter.unusedVariables false
/-- A note. -/
structure Nt where
  kind : Int
  g : Int
  p : Int
  m : Int
  x : Int
deriving DecidableEq
abbrev nv (n : Nt) : List Value := [.int .i64 n.kind, .int .i64 n.g, .int .i64 n.p, .int .i64 n.m, .int .i64 n.x]
abbrev noteV (n : Nt) : Value := .agg (nv n).toArray
/-- An M, and the P on which its call began. -/
structure Mc where
  a : Int
  p : Int
  g : Int
  b : Int
deriving DecidableEq
structure Ide where
  c : Cfg
  tab : Tab
  sem : SemS
  ms : List Mc
  ps : List Int
  many : Int
/-- The letters of the numbers that have a meaning. -/
def fK (k : Int) : List UInt8 :=
  if k = 1 ∨ k = 8 then [103, 109, 120] else if k = 2 ∨ k = 5 ∨ k = 6 ∨ k = 7 ∨ k = 11 then [103, 112, 109, 120]
  else if k = 3 ∨ k = 4 ∨ k = 9 ∨ k = 10 then [103, 112, 109] else if k = 12 then [103, 109] else if k = 13 then [112, 109, 120] else if k = 14 then [112, 109] else [112]
/-- X stays below this. -/
def xK (c : Cfg) (k : Int) : Int := if k = 1 then c.g else if k = 2 ∨ k = 11 ∨ k = 13 then 2 else if k = 5 ∨ k = 6 ∨ k = 7 ∨ k = 8 then 4 else 0
def fieldB (named : Bool) (n bound : Int) : Bool := if named then decide (0 ≤ n ∧ n < bound) else decide (n = -1)
def rightB (c : Cfg) (n : Nt) : Bool :=
  fieldB (decide (103 ∈ fK n.kind)) n.g c.g && (fieldB (decide (112 ∈ fK n.kind)) n.p c.n && (fieldB (decide (109 ∈ fK n.kind)) n.m c.m && fieldB (decide (120 ∈ fK n.kind)) n.x (xK c n.kind)))
section
variable (I : Ide) (n : Nt)
def Ide.mAt (m : Int) : Mc := I.ms[m.toNat]?.getD ⟨0, 0, 0, 0⟩
def Ide.pAt (p : Int) : Int := I.ps[p.toNat]?.getD 0
def Ide.stat (g : Int) : Int := if 0 ≤ g ∧ g < I.tab.all.length then (I.tab.all[g.toNat]?.getD (0, 0)).1 else 0
def Ide.count (s : Int) : Int := if 0 ≤ s then (I.sem[s.toNat]?.map (·.2)).getD (-1) else -1
def Ide.first (s g : Int) : Bool := if g < 0 then decide (rowS I.sem s = []) else decide ((rowS I.sem s)[0]? = some g)
def Ide.kept (p : Int) : Bool := decide (0 ≤ I.pAt p) && decide ((I.mAt (I.pAt p)).a = 3)
def Ide.callers : Nat := I.ms.countP fun m => decide (m.a = 3)
def runsB : Bool := decide ((I.mAt n.m).a = 2 ∧ (I.mAt n.m).p = n.p ∧ (I.mAt n.m).g = n.g)
def searchesB : Bool := decide ((I.mAt n.m).a = 1 ∧ (I.mAt n.m).p = n.p ∧ (I.mAt n.m).g = -1)
def callsB : Bool := decide ((I.mAt n.m).a = 3) && decide ((I.mAt n.m).g = n.g)
def mayK : Bool :=
  if n.kind = 1 then decide ((I.mAt n.m).a = 2) && (decide ((I.mAt n.m).g = n.x) && decide (I.tab.row[0]? = some n.g))
  else if n.kind = 2 then searchesB I n && decide (I.stat n.g = 1)
  else if n.kind = 3 ∨ n.kind = 4 ∨ n.kind = 9 then runsB I n
  else if n.kind = 5 then runsB I n && decide (0 < I.count n.x)
  else if n.kind = 6 then runsB I n && decide (I.count n.x = 0)
  else if n.kind = 7 then runsB I n && (I.first n.x (-1) && decide (I.count n.x < 1073741824))
  else if n.kind = 8 then decide ((I.mAt n.m).a = 2) && I.first n.x n.g
  else if n.kind = 10 then runsB I n && decide ((I.callers : Int) < I.c.m - I.c.n)
  else if n.kind = 11 then if n.x = 1 then callsB I n && (decide ((I.mAt n.m).b = n.p) && I.kept n.p) else callsB I n && (decide ((I.mAt n.m).p < 0) && decide (I.pAt n.p = -1))
  else if n.kind = 12 then callsB I n && decide ((I.mAt n.m).p < 0)
  else if n.kind = 13 then decide ((I.mAt n.m).a = 0) && decide (I.pAt n.p = n.x - 2)
  else if n.kind = 14 then searchesB I n
  else if n.kind = 15 then I.kept n.p
  else true
def mayB : Bool := decide (1 ≤ n.kind ∧ n.kind ≤ 16) && (rightB I.c n && mayK I n)
/-- An M does something on a P, with a goroutine. -/
def Ide.has (m p a g : Int) : Ide := { I with ms := I.ms.modify m.toNat fun x => { x with a := a, p := p, g := g }, ps := if 0 ≤ p then I.ps.set p.toNat m else I.ps }
def Ide.leaves (m : Int) : Ide := { I with ms := I.ms.modify m.toNat fun x => { x with a := 0, p := -1, g := -1 } }
def Ide.drops (p : Int) : Ide := { I with ms := I.ms.modify (I.pAt p).toNat fun x => { x with p := -1 } }
def Ide.tset (g s : Int) : Ide := { I with tab := (I.tab.set g s).2 }
def Ide.pset (p v : Int) : Ide := { I with ps := I.ps.set p.toNat v }
def doK : Ide :=
  if n.kind = 1 then { I with tab := I.tab.make.2.2 }
  else if n.kind = 2 then (I.tset n.g 2).has n.m n.p 2 n.g
  else if n.kind = 3 ∨ n.kind = 4 then (I.tset n.g 1).has n.m n.p 1 (-1)
  else if n.kind = 5 then { I with sem := (acqS I.sem n.x n.g).1 }
  else if n.kind = 6 then (Ide.tset { I with sem := (acqS I.sem n.x n.g).1 } n.g 3).has n.m n.p 1 (-1)
  else if n.kind = 7 then { I with sem := (relS I.sem n.x).1 }
  else if n.kind = 8 then Ide.tset { I with sem := (relS I.sem n.x).1 } n.g 1
  else if n.kind = 9 then (I.tset n.g 0).has n.m n.p 1 (-1)
  else if n.kind = 10 then let J := (I.tset n.g 4).has n.m n.p 3 n.g; { J with ms := J.ms.modify n.m.toNat fun x => { x with b := n.p } }
  else if n.kind = 11 then (Ide.tset (if n.x = 1 then I.drops n.p else I) n.g 2).has n.m n.p 2 n.g
  else if n.kind = 12 then (I.tset n.g 1).leaves n.m
  else if n.kind = 13 then I.has n.m n.p 1 (-1)
  else if n.kind = 14 then (I.leaves n.m).pset n.p (-1)
  else if n.kind = 15 then (I.drops n.p).pset n.p (-2)
  else I
/-- Notes that are taken: how many, and the system. -/
def takeI : Ide → List Nt → Nat × Ide
  | I, [] => (0, I)
  | I, n :: l => if mayB I n then let r := takeI { doK I n with many := (doK I n).many + 1 } l; (r.1 + 1, r.2) else (0, I)
end
/-- It is within bounds. -/
structure Ide.ok (I : Ide) (K : Int) : Prop where
  c : RightP I.c
  ml : (I.ms.length : Int) = I.c.m
  pl : (I.ps.length : Int) = I.c.n
  pm : ∀ q ∈ I.ps, q < I.c.m
  tab : I.tab.ok K
  tl : (I.tab.all.length : Int) = I.c.g
  sl : I.sem.length = 4
  sk : ∀ (i : Nat) (l : List Int) (x : Int), I.sem[i]? = some (l, x) → (l.length : Int) ≤ K
  many : 0 ≤ I.many ∧ I.many ≤ K
end Go.Proofs.YtlhnmbajbhaaoaaGreat
namespace Go.Proofs.YtlhnmbajbhaaoaaGreat
open Go Go.SL
set_option linter.unusedSimpArgs false
set_option linter.unusedVariables false
set_option maxRecDepth 10000
set_option maxHeartbeats 1000000
def mcC (m : Mc) : List Value := [.int .i64 m.a, .int .i64 m.p, .int .i64 m.g, .int .i64 m.b]
def mcs : List Mc → List Value
  | [] => []
  | m :: l => mcC m ++ mcs l
theorem mcs_len (l : List Mc) : (mcs l).length = l.length * 4 := by
  induction l with
  | nil => rfl
  | cons m l ih => simp only [mcs, mcC, List.length_append, List.length_cons, List.length_nil, ih]; omega
theorem mcs_one : ∀ l : List Mc, (mcs l).all Value.oneCell' = true
  | [] => rfl
  | m :: l => by simp [mcs, mcC, mcs_one l, Value.oneCell']
theorem mcs_app (a b : List Mc) : mcs (a ++ b) = mcs a ++ mcs b := by
  induction a with
  | nil => rfl
  | cons r a ih => simp only [List.cons_append, mcs, ih, List.append_assoc]
theorem mcs_split {l : List Mc} {k : Nat} (h : k < l.length) : mcs l = mcs (l.take k) ++ (mcC l[k] ++ mcs (l.drop (k + 1))) := by
  have e : l = l.take k ++ l[k] :: l.drop (k + 1) := by rw [← List.drop_eq_getElem_cons h, List.take_append_drop]
  conv => lhs; rw [e]
  rw [mcs_app]; rfl
theorem mcs_modify {l : List Mc} {k : Nat} (h : k < l.length) (f : Mc → Mc) : mcs (l.modify k f) = mcs (l.take k) ++ (mcC (f l[k]) ++ mcs (l.drop (k + 1))) := by
  have e : l.modify k f = l.take k ++ f l[k] :: l.drop (k + 1) := by
    apply List.ext_getElem
    · simp; omega
    · intro i h1 h2
      rw [List.getElem_modify]
      by_cases hi : i < k
      · rw [if_neg (by omega), List.getElem_append_left (by simp; omega)]
        simp
      · rw [List.getElem_append_right (by simp; omega)]
        simp only [List.length_take, Nat.min_eq_left (Nat.le_of_lt h)]
        by_cases hk : k = i
        · subst hk; simp
        · rw [if_neg hk, List.getElem_cons, dif_neg (by omega)]
          simp only [List.getElem_drop]
          congr 1
          omega
  rw [e, mcs_app]; rfl
theorem mcs_at {l : List Mc} {k j : Nat} (h : k < l.length) (hj : j < 4) (sp : List Value) : (mcs l ++ sp)[k * 4 + j]? = (mcC l[k])[j]? := by
  have hl : (mcs (l.take k)).length = k * 4 := by rw [mcs_len, List.length_take]; omega
  rw [mcs_split h, List.append_assoc, List.getElem?_append_right (by omega), hl, Nat.add_sub_cancel_left, List.append_assoc, List.getElem?_append_left (by simpa [mcC] using hj)]
theorem mcs_set3 {l : List Mc} {k : Nat} (h : k < l.length) (sp : List Value) (a p g : Int) : (mcs l ++ sp).take (k * 4) ++ [.int .i64 a, .int .i64 p, .int .i64 g] ++ (mcs l ++ sp).drop (k * 4 + 3) = mcs (l.modify k fun x => { x with a := a, p := p, g := g }) ++ sp := by
  have hl : (mcs (l.take k)).length = k * 4 := by rw [mcs_len, List.length_take]; omega
  rw [mcs_modify h, mcs_split h, List.append_assoc (mcs (l.take k)) (mcC l[k] ++ mcs (l.drop (k + 1))) sp, List.take_left' hl, ← List.drop_drop, List.drop_left' hl]
  simp [mcC]
theorem mcs_setP {l : List Mc} {k : Nat} (h : k < l.length) (sp : List Value) (p : Int) : (mcs l ++ sp).set (k * 4 + 1) (.int .i64 p) = mcs (l.modify k fun x => { x with p := p }) ++ sp := by
  have hl : (mcs (l.take k)).length = k * 4 := by rw [mcs_len, List.length_take]; omega
  rw [mcs_modify h, mcs_split h, List.append_assoc, List.set_append_right _ _ (by omega), hl, Nat.add_sub_cancel_left, List.append_assoc]
  simp [mcC]
theorem mcs_setB {l : List Mc} {k : Nat} (h : k < l.length) (sp : List Value) (p : Int) : (mcs l ++ sp).set (k * 4 + 3) (.int .i64 p) = mcs (l.modify k fun x => { x with b := p }) ++ sp := by
  have hl : (mcs (l.take k)).length = k * 4 := by rw [mcs_len, List.length_take]; omega
  rw [mcs_modify h, mcs_split h, List.append_assoc, List.set_append_right _ _ (by omega), hl, Nat.add_sub_cancel_left, List.append_assoc]
  simp [mcC]
/-- The system, and where its parts lie. -/
structure IdL where
  I : Ide
  q : Nat
  s : Nat
  bm : Nat
  cm : Nat
  sm : List Value
  bp : Nat
  cp : Nat
  sp : List Value
abbrev ideC (L : IdL) : List Value := [.int .i64 L.I.c.n, .int .i64 L.I.c.q, .int .i64 L.I.c.g, .int .i64 L.I.c.m, .int .i64 L.I.c.t, .int .i64 L.I.c.s, ptr L.q, ptr L.s,
  .slice (some ⟨L.bm, 0, none⟩) L.I.ms.length L.cm, .slice (some ⟨L.bp, 0, none⟩) L.I.ps.length L.cp, .int .i64 L.I.many]
def IdeAt (x : Nat) (L : IdL) : HProp := blk x (ideC L) 75 + (blk L.bm (mcs L.I.ms ++ L.sm) 80 + (blk L.bp (zs L.I.ps ++ L.sp) 3 + (TabAt L.q L.I.tab + SemAt L.s L.I.sem)))
theorem ide_open {x : Nat} {L : IdL} {F : HProp} : IdeAt x L + F = blk x (ideC L) 75 + (blk L.bm (mcs L.I.ms ++ L.sm) 80 + (blk L.bp (zs L.I.ps ++ L.sp) 3 + (TabAt L.q L.I.tab + (SemAt L.s L.I.sem + F)))) := by
  unfold IdeAt; simp only [HProp.add_assoc]
abbrev IdL.put (L : IdL) (J : Ide) : IdL := { L with I := J }
abbrev stS (a p g : Int) : List Sc := [.int .i64 a, .int .i64 p, .int .i64 g]
attribute [local irreducible] WP WPL QSeq QBlk QRet Does Cell Cells Rd Mine Ent Aside RV Yield TabAt SemAt
section
variable {B : World} {H F G : HProp} {x : Nat} {L : IdL} {n : Nt} {m p a g : Int} {k j : Nat}
theorem mAt_of (h : 0 ≤ m ∧ m < L.I.ms.length) : ∃ (k : Nat) (hk : k < L.I.ms.length), m = (k : Int) ∧ L.I.mAt m = L.I.ms[k] := by
  refine ⟨m.toNat, by omega, by omega, ?_⟩
  unfold Ide.mAt
  rw [List.getElem?_eq_getElem (by omega)]
  rfl
theorem pAt_of (h : 0 ≤ p ∧ p < L.I.ps.length) : ∃ (k : Nat) (hk : k < L.I.ps.length), p = (k : Int) ∧ L.I.pAt p = L.I.ps[k] := by
  refine ⟨p.toNat, by omega, by omega, ?_⟩
  unfold Ide.pAt
  rw [List.getElem?_eq_getElem (by omega)]
  rfl
theorem m_cell (hk : k < L.I.ms.length) {v : Value} (hj : j < 4) (hv : (mcC L.I.ms[k])[j]? = some v) : Cell B (blk L.bm (mcs L.I.ms ++ L.sm) 80) L.bm (k * 4 + j) v := by
  rw [← HProp.add_emp (blk L.bm (mcs L.I.ms ++ L.sm) 80)]
  exact Cell.blk (by rw [mcs_at hk hj, hv])
theorem m_cells (hk : k < L.I.ms.length) : Cells B (blk L.bm (mcs L.I.ms ++ L.sm) 80) L.bm (k * 4) [.int .i64 L.I.ms[k].a, .int .i64 L.I.ms[k].p, .int .i64 L.I.ms[k].g] := by
  rw [← HProp.add_emp (blk L.bm (mcs L.I.ms ++ L.sm) 80)]
  refine Cells.blk fun j v hj => ?_
  match j, hj with
  | 0, hj => rw [mcs_at hk (by omega)]; exact hj
  | 1, hj => rw [mcs_at hk (by omega)]; exact hj
  | 2, hj => rw [mcs_at hk (by omega)]; exact hj
theorem p_cell (hk : k < L.I.ps.length) : Cell B (blk L.bp (zs L.I.ps ++ L.sp) 3) L.bp k (.int .i64 L.I.ps[k]) := by
  rw [← HProp.add_emp (blk L.bp (zs L.I.ps ++ L.sp) 3)]
  exact Cell.blk (by rw [List.getElem?_append_left (by rw [zs_length]; omega), zs_get _ _ hk])
theorem iRuns [i : HasAt IdeAt H x L F] (hm : 0 ≤ n.m ∧ n.m < L.I.ms.length) : Does Tryz.prog B 62 [ptr x, noteV n] H fun r H' => H' = H ∧ r = .bool (runsB L.I n) := by
  obtain ⟨k, hk, hm, hA⟩ := mAt_of hm
  unfold runsB
  rw [hA]
  have cs := m_cells (B := B) hk
  rw [i.eq, ide_open]
  refine Does.frame0 ?_
  refine fn_intro 20 Tryz.func62 rfl rfl rfl ?_
  refine walk ?_
  refine s_box (cs := nv n) rfl rfl rfl ?_
  intro b
  refine walk ?_
  (refine wp_draw [] (.look 0 (.look 1 (.look 2 (.look 3 (.look 4 (.look 5 (.look 6 (.look 7 (.look 8 (.look 9 (.look 10 (.look 11 (.look 12 (.look 13 (.look 14 (.look 15 .nil)))))))))))))))) (by kernel_rfl) ?_; refine dwP ?_; refine dwP ?_; refine dwP ?_; refine dwL ?_; refine dwP ?_; refine dwL ?_; (apply dw_pure; (· exact rfl); (· exact rfl); (· (intro G; (apply s_indexAddr (j := k) (o' := k * 4); (· exact rfl); (· exact rfl); (· omega); (· omega); (· omega); (· exact rfl)); exact looked))); refine dwP ?_; refine dwL ?_; refine dwP ?_; refine dwL ?_; refine dwP ?_; refine dwL ?_; (apply dw_pure; (· exact rfl); (· exact rfl); (· (intro G; (refine s_build (cs := [.int .i64 2, .int .i64 n.p, .int .i64 n.g]) ?_ rfl ?_; (· kernel_rfl)); exact looked))); (apply dw_pure; (· exact rfl); (· exact rfl); (· (intro G; refine s_eqlF (stS L.I.ms[k].a L.I.ms[k].p L.I.ms[k].g) (stS 2 n.p n.g) (b := decide (L.I.ms[k].a = 2 ∧ L.I.ms[k].p = n.p ∧ L.I.ms[k].g = n.g)) rfl rfl rfl rfl (by simp) rfl ?_; exact looked))); refine dwP ?_; refine dw_nil ?_)
  refine walk ?_
  (first | (apply retRD1 (G := (blk x (ideC L) 75 + (blk L.bm (mcs L.I.ms ++ L.sm) 80 + (blk L.bp (zs L.I.ps ++ L.sp) 3 + (TabAt L.q L.I.tab + (SemAt L.s L.I.sem + F)))))) (.inr rfl) rfl; (· first | (refine rv_tmp (v := .bool _) rfl) | exact rv_tmp rfl); (· exact Ent.auto)) | (apply retRD1 (G := (blk x (ideC L) 75 + (blk L.bm (mcs L.I.ms ++ L.sm) 80 + (blk L.bp (zs L.I.ps ++ L.sp) 3 + (TabAt L.q L.I.tab + (SemAt L.s L.I.sem + F)))))) (.inl rfl) rfl; (· first | (refine rv_tmp (v := .bool _) rfl) | exact rv_tmp rfl); (· exact Ent.auto)))
  exact ⟨Ent.refl _, rfl⟩
end
end Go.Proofs.YtlhnmbajbhaaoaaGreat
namespace Go.Proofs.YtlhnmbajbhaaoaaGreat
open Go Go.SL
set_option linter.unusedSimpArgs false
set_option linter.unusedVariables false
set_option maxRecDepth 10000
set_option maxHeartbeats 1000000
attribute [local irreducible] WP WPL QSeq QBlk QRet Does Cell Cells Rd Mine Ent Aside RV Yield TabAt SemAt
section
variable {B : World} {H F G : HProp} {x : Nat} {L : IdL} {n : Nt} {m p a g : Int} {k j : Nat}
theorem iSearches [i : HasAt IdeAt H x L F] (hm : 0 ≤ n.m ∧ n.m < L.I.ms.length) : Does Tryz.prog B 69 [ptr x, noteV n] H fun r H' => H' = H ∧ r = .bool (searchesB L.I n) := by
  obtain ⟨k, hk, hm, hA⟩ := mAt_of hm
  unfold searchesB
  rw [hA]
  have cs := m_cells (B := B) hk
  rw [i.eq, ide_open]
  refine Does.frame0 ?_
  refine fn_intro 18 Tryz.func69 rfl rfl rfl ?_
  refine walk ?_
  refine s_box (cs := nv n) rfl rfl rfl ?_
  intro b
  refine walk ?_
  (refine wp_draw [] (.look 0 (.look 1 (.look 2 (.look 3 (.look 4 (.look 5 (.look 6 (.look 7 (.look 8 (.look 9 (.look 10 (.look 11 (.look 12 (.look 13 .nil)))))))))))))) (by kernel_rfl) ?_; refine dwP ?_; refine dwP ?_; refine dwP ?_; refine dwL ?_; refine dwP ?_; refine dwL ?_; (apply dw_pure; (· exact rfl); (· exact rfl); (· (intro G; (apply s_indexAddr (j := k) (o' := k * 4); (· exact rfl); (· exact rfl); (· omega); (· omega); (· omega); (· exact rfl)); exact looked))); refine dwP ?_; refine dwL ?_; refine dwP ?_; refine dwL ?_; (apply dw_pure; (· exact rfl); (· exact rfl); (· (intro G; (refine s_build (cs := [.int .i64 1, .int .i64 n.p, .int .i64 (-1)]) ?_ rfl ?_; (· kernel_rfl)); exact looked))); (apply dw_pure; (· exact rfl); (· exact rfl); (· (intro G; refine s_eqlF (stS L.I.ms[k].a L.I.ms[k].p L.I.ms[k].g) (stS 1 n.p (-1)) (b := decide (L.I.ms[k].a = 1 ∧ L.I.ms[k].p = n.p ∧ L.I.ms[k].g = -1)) rfl rfl rfl rfl (by simp) rfl ?_; exact looked))); refine dwP ?_; refine dw_nil ?_)
  refine walk ?_
  (first | (apply retRD1 (G := (blk x (ideC L) 75 + (blk L.bm (mcs L.I.ms ++ L.sm) 80 + (blk L.bp (zs L.I.ps ++ L.sp) 3 + (TabAt L.q L.I.tab + (SemAt L.s L.I.sem + F)))))) (.inr rfl) rfl; (· first | (refine rv_tmp (v := .bool _) rfl) | exact rv_tmp rfl); (· exact Ent.auto)) | (apply retRD1 (G := (blk x (ideC L) 75 + (blk L.bm (mcs L.I.ms ++ L.sm) 80 + (blk L.bp (zs L.I.ps ++ L.sp) 3 + (TabAt L.q L.I.tab + (SemAt L.s L.I.sem + F)))))) (.inl rfl) rfl; (· first | (refine rv_tmp (v := .bool _) rfl) | exact rv_tmp rfl); (· exact Ent.auto)))
  exact ⟨Ent.refl _, rfl⟩
theorem iCalls [i : HasAt IdeAt H x L F] (hm : 0 ≤ n.m ∧ n.m < L.I.ms.length) : Does Tryz.prog B 89 [ptr x, noteV n] H fun r H' => H' = H ∧ r = .bool (callsB L.I n) := by
  obtain ⟨k, hk, hm, hA⟩ := mAt_of hm
  unfold callsB
  rw [hA]
  have c0 := m_cell (B := B) hk (j := 0) (by omega) rfl
  have c2 := m_cell (B := B) hk (j := 2) (by omega) rfl
  rw [i.eq, ide_open]
  refine Does.frame0 ?_
  by_cases h3 : L.I.ms[k].a = 3
  · by_cases h2 : L.I.ms[k].g = n.g
    · rw [decide_eq_true h3, decide_eq_true h2]
      refine fn_intro 31 Tryz.func89 rfl rfl rfl ?_
      refine walk ?_
      refine s_box (cs := nv n) rfl rfl rfl ?_
      intro b
      refine walk ?_
      (refine wp_draw [] (.look 0 (.look 1 (.look 2 (.look 3 (.look 4 (.look 5 (.look 6 (.look 7 (.look 8 (.look 9 (.look 10 (.look 11 (.look 12 (.look 13 (.look 14 (.look 15 (.look 16 (.look 17 (.look 18 (.look 19 (.look 20 (.look 21 (.look 22 (.look 23 (.look 24 (.look 25 (.look 26 .nil))))))))))))))))))))))))))) (by kernel_rfl) ?_; refine dwP ?_; refine dwP ?_; refine dwP ?_; refine dwL ?_; refine dwP ?_; refine dwL ?_; (apply dw_pure; (· exact rfl); (· exact rfl); (· (intro G; (apply s_indexAddr (j := k) (o' := k * 4); (· exact rfl); (· exact rfl); (· omega); (· omega); (· omega); (· exact rfl)); exact looked))); refine dwP ?_; refine dwP ?_; refine dwL ?_; refine dwP ?_; refine dwP ?_; refine dwP ?_; refine dwP ?_; refine dwP ?_; refine dwL ?_; refine dwP ?_; refine dwL ?_; (apply dw_pure; (· exact rfl); (· exact rfl); (· (intro G; (first | (refine step_wanted rfl rfl ?_; (apply s_indexAddr (j := k) (o' := k * 4); (· exact rfl); (· exact rfl); (· omega); (· omega); (· omega); (· exact rfl))) | skip); exact looked))); refine dwP ?_; refine dwP ?_; refine dwL ?_; refine dwP ?_; refine dwL ?_; refine dwP ?_; refine dwP ?_; refine dwP ?_; refine dw_nil ?_)
      refine walk ?_
      (first | (apply retRD1 (G := (blk x (ideC L) 75 + (blk L.bm (mcs L.I.ms ++ L.sm) 80 + (blk L.bp (zs L.I.ps ++ L.sp) 3 + (TabAt L.q L.I.tab + (SemAt L.s L.I.sem + F)))))) (.inr rfl) rfl; (· first | (refine rv_tmp (v := .bool _) rfl) | exact rv_tmp rfl); (· exact Ent.auto)) | (apply retRD1 (G := (blk x (ideC L) 75 + (blk L.bm (mcs L.I.ms ++ L.sm) 80 + (blk L.bp (zs L.I.ps ++ L.sp) 3 + (TabAt L.q L.I.tab + (SemAt L.s L.I.sem + F)))))) (.inl rfl) rfl; (· first | (refine rv_tmp (v := .bool _) rfl) | exact rv_tmp rfl); (· exact Ent.auto)))
      exact ⟨Ent.refl _, rfl⟩
    · rw [decide_eq_true h3, decide_eq_false h2]
      refine fn_intro 31 Tryz.func89 rfl rfl rfl ?_
      refine walk ?_
      refine s_box (cs := nv n) rfl rfl rfl ?_
      intro b
      refine walk ?_
      (refine wp_draw [] (.look 0 (.look 1 (.look 2 (.look 3 (.look 4 (.look 5 (.look 6 (.look 7 (.look 8 (.look 9 (.look 10 (.look 11 (.look 12 (.look 13 (.look 14 (.look 15 (.look 16 (.look 17 (.look 18 (.look 19 (.look 20 (.look 21 (.look 22 (.look 23 (.look 24 (.look 25 (.look 26 .nil))))))))))))))))))))))))))) (by kernel_rfl) ?_; refine dwP ?_; refine dwP ?_; refine dwP ?_; refine dwL ?_; refine dwP ?_; refine dwL ?_; (apply dw_pure; (· exact rfl); (· exact rfl); (· (intro G; (apply s_indexAddr (j := k) (o' := k * 4); (· exact rfl); (· exact rfl); (· omega); (· omega); (· omega); (· exact rfl)); exact looked))); refine dwP ?_; refine dwP ?_; refine dwL ?_; refine dwP ?_; refine dwP ?_; refine dwP ?_; refine dwP ?_; refine dwP ?_; refine dwL ?_; refine dwP ?_; refine dwL ?_; (apply dw_pure; (· exact rfl); (· exact rfl); (· (intro G; (first | (refine step_wanted rfl rfl ?_; (apply s_indexAddr (j := k) (o' := k * 4); (· exact rfl); (· exact rfl); (· omega); (· omega); (· omega); (· exact rfl))) | skip); exact looked))); refine dwP ?_; refine dwP ?_; refine dwL ?_; refine dwP ?_; refine dwL ?_; refine dwP ?_; refine dwP ?_; refine dwP ?_; refine dw_nil ?_)
      refine walk ?_
      (first | (apply retRD1 (G := (blk x (ideC L) 75 + (blk L.bm (mcs L.I.ms ++ L.sm) 80 + (blk L.bp (zs L.I.ps ++ L.sp) 3 + (TabAt L.q L.I.tab + (SemAt L.s L.I.sem + F)))))) (.inr rfl) rfl; (· first | (refine rv_tmp (v := .bool _) rfl) | exact rv_tmp rfl); (· exact Ent.auto)) | (apply retRD1 (G := (blk x (ideC L) 75 + (blk L.bm (mcs L.I.ms ++ L.sm) 80 + (blk L.bp (zs L.I.ps ++ L.sp) 3 + (TabAt L.q L.I.tab + (SemAt L.s L.I.sem + F)))))) (.inl rfl) rfl; (· first | (refine rv_tmp (v := .bool _) rfl) | exact rv_tmp rfl); (· exact Ent.auto)))
      exact ⟨Ent.refl _, rfl⟩
  · rw [decide_eq_false h3, Bool.false_and]
    refine fn_intro 31 Tryz.func89 rfl rfl rfl ?_
    refine walk ?_
    refine s_box (cs := nv n) rfl rfl rfl ?_
    intro b
    refine walk ?_
    (refine wp_draw [] (.look 0 (.look 1 (.look 2 (.look 3 (.look 4 (.look 5 (.look 6 (.look 7 (.look 8 (.look 9 (.look 10 (.look 11 (.look 12 (.look 13 (.look 14 (.look 15 (.look 16 (.look 17 (.look 18 (.look 19 (.look 20 (.look 21 (.look 22 (.look 23 (.look 24 (.look 25 (.look 26 .nil))))))))))))))))))))))))))) (by kernel_rfl) ?_; refine dwP ?_; refine dwP ?_; refine dwP ?_; refine dwL ?_; refine dwP ?_; refine dwL ?_; (apply dw_pure; (· exact rfl); (· exact rfl); (· (intro G; (apply s_indexAddr (j := k) (o' := k * 4); (· exact rfl); (· exact rfl); (· omega); (· omega); (· omega); (· exact rfl)); exact looked))); refine dwP ?_; refine dwP ?_; refine dwL ?_; refine dwP ?_; refine dwP ?_; refine dwP ?_; refine dwP ?_; refine dwP ?_; refine dwL ?_; refine dwP ?_; refine dwL ?_; (apply dw_pure; (· exact rfl); (· exact rfl); (· (intro G; (first | (refine step_wanted rfl rfl ?_; (apply s_indexAddr (j := k) (o' := k * 4); (· exact rfl); (· exact rfl); (· omega); (· omega); (· omega); (· exact rfl))) | skip); exact looked))); refine dwP ?_; refine dwP ?_; refine dwL ?_; refine dwP ?_; refine dwL ?_; refine dwP ?_; refine dwP ?_; refine dwP ?_; refine dw_nil ?_)
    refine walk ?_
    (first | (apply retRD1 (G := (blk x (ideC L) 75 + (blk L.bm (mcs L.I.ms ++ L.sm) 80 + (blk L.bp (zs L.I.ps ++ L.sp) 3 + (TabAt L.q L.I.tab + (SemAt L.s L.I.sem + F)))))) (.inr rfl) rfl; (· first | (refine rv_tmp (v := .bool _) rfl) | exact rv_tmp rfl); (· exact Ent.auto)) | (apply retRD1 (G := (blk x (ideC L) 75 + (blk L.bm (mcs L.I.ms ++ L.sm) 80 + (blk L.bp (zs L.I.ps ++ L.sp) 3 + (TabAt L.q L.I.tab + (SemAt L.s L.I.sem + F)))))) (.inl rfl) rfl; (· first | (refine rv_tmp (v := .bool _) rfl) | exact rv_tmp rfl); (· exact Ent.auto)))
    exact ⟨Ent.refl _, rfl⟩
theorem iKept [i : HasAt IdeAt H x L F] (hp : 0 ≤ p ∧ p < L.I.ps.length) (hv : L.I.pAt p < L.I.ms.length) : Does Tryz.prog B 96 [ptr x, .int .i64 p] H fun r H' => H' = H ∧ r = .bool (L.I.kept p) := by
  obtain ⟨kp, hkp, hp, hA⟩ := pAt_of hp
  unfold Ide.kept
  rw [hA] at hv ⊢
  have cp := p_cell (B := B) hkp
  rw [i.eq, ide_open]
  refine Does.frame0 ?_
  by_cases h0 : 0 ≤ L.I.ps[kp]
  · obtain ⟨k, hk, hm, hA⟩ := mAt_of (L := L) ⟨h0, hv⟩
    rw [hA]
    have c0 := m_cell (B := B) hk (j := 0) (by omega) rfl
    by_cases h3 : L.I.ms[k].a = 3
    · rw [decide_eq_true h0, decide_eq_true h3]
      refine fn_intro 31 Tryz.func96 rfl rfl rfl ?_
      refine walk ?_
      (refine wp_draw [] (.look 0 (.look 1 (.look 2 (.look 3 (.look 4 (.look 5 (.look 6 (.look 7 (.look 8 (.look 9 (.look 10 (.look 11 (.look 12 (.look 13 (.look 14 (.look 15 (.look 16 (.look 17 (.look 18 (.look 19 (.look 20 (.look 21 (.look 22 (.look 23 (.look 24 (.look 25 (.look 26 .nil))))))))))))))))))))))))))) (by kernel_rfl) ?_; refine dwP ?_; refine dwP ?_; refine dwP ?_; refine dwL ?_; refine dwP ?_; (apply dw_pure; (· exact rfl); (· exact rfl); (· (intro G; (apply s_indexAddr (j := kp) (o' := kp); (· exact rfl); (· exact rfl); (· omega); (· omega); (· omega); (· exact rfl)); exact looked))); refine dwL ?_; refine dwP ?_; refine dwP ?_; refine dwP ?_; refine dwP ?_; refine dwP ?_; refine dwL ?_; refine dwP ?_; refine dwP ?_; refine dwP ?_; refine dwL ?_; refine dwP ?_; (apply dw_pure; (· exact rfl); (· exact rfl); (· (intro G; (first | (refine step_wanted rfl rfl ?_; (apply s_indexAddr (j := kp) (o' := kp); (· exact rfl); (· exact rfl); (· omega); (· omega); (· omega); (· exact rfl))) | skip); exact looked))); refine dwL ?_; (apply dw_pure; (· exact rfl); (· exact rfl); (· (intro G; (first | (refine step_wanted rfl rfl ?_; (apply s_indexAddr (j := k) (o' := k * 4); (· exact rfl); (· exact rfl); (· omega); (· omega); (· omega); (· exact rfl))) | skip); exact looked))); refine dwP ?_; refine dwP ?_; refine dwL ?_; refine dwP ?_; refine dwP ?_; refine dwP ?_; refine dw_nil ?_)
      refine walk ?_
      (first | (apply retRD1 (G := (blk x (ideC L) 75 + (blk L.bm (mcs L.I.ms ++ L.sm) 80 + (blk L.bp (zs L.I.ps ++ L.sp) 3 + (TabAt L.q L.I.tab + (SemAt L.s L.I.sem + F)))))) (.inr rfl) rfl; (· first | (refine rv_tmp (v := .bool _) rfl) | exact rv_tmp rfl); (· exact Ent.auto)) | (apply retRD1 (G := (blk x (ideC L) 75 + (blk L.bm (mcs L.I.ms ++ L.sm) 80 + (blk L.bp (zs L.I.ps ++ L.sp) 3 + (TabAt L.q L.I.tab + (SemAt L.s L.I.sem + F)))))) (.inl rfl) rfl; (· first | (refine rv_tmp (v := .bool _) rfl) | exact rv_tmp rfl); (· exact Ent.auto)))
      exact ⟨Ent.refl _, rfl⟩
    · rw [decide_eq_true h0, decide_eq_false h3]
      refine fn_intro 31 Tryz.func96 rfl rfl rfl ?_
      refine walk ?_
      (refine wp_draw [] (.look 0 (.look 1 (.look 2 (.look 3 (.look 4 (.look 5 (.look 6 (.look 7 (.look 8 (.look 9 (.look 10 (.look 11 (.look 12 (.look 13 (.look 14 (.look 15 (.look 16 (.look 17 (.look 18 (.look 19 (.look 20 (.look 21 (.look 22 (.look 23 (.look 24 (.look 25 (.look 26 .nil))))))))))))))))))))))))))) (by kernel_rfl) ?_; refine dwP ?_; refine dwP ?_; refine dwP ?_; refine dwL ?_; refine dwP ?_; (apply dw_pure; (· exact rfl); (· exact rfl); (· (intro G; (apply s_indexAddr (j := kp) (o' := kp); (· exact rfl); (· exact rfl); (· omega); (· omega); (· omega); (· exact rfl)); exact looked))); refine dwL ?_; refine dwP ?_; refine dwP ?_; refine dwP ?_; refine dwP ?_; refine dwP ?_; refine dwL ?_; refine dwP ?_; refine dwP ?_; refine dwP ?_; refine dwL ?_; refine dwP ?_; (apply dw_pure; (· exact rfl); (· exact rfl); (· (intro G; (first | (refine step_wanted rfl rfl ?_; (apply s_indexAddr (j := kp) (o' := kp); (· exact rfl); (· exact rfl); (· omega); (· omega); (· omega); (· exact rfl))) | skip); exact looked))); refine dwL ?_; (apply dw_pure; (· exact rfl); (· exact rfl); (· (intro G; (first | (refine step_wanted rfl rfl ?_; (apply s_indexAddr (j := k) (o' := k * 4); (· exact rfl); (· exact rfl); (· omega); (· omega); (· omega); (· exact rfl))) | skip); exact looked))); refine dwP ?_; refine dwP ?_; refine dwL ?_; refine dwP ?_; refine dwP ?_; refine dwP ?_; refine dw_nil ?_)
      refine walk ?_
      (first | (apply retRD1 (G := (blk x (ideC L) 75 + (blk L.bm (mcs L.I.ms ++ L.sm) 80 + (blk L.bp (zs L.I.ps ++ L.sp) 3 + (TabAt L.q L.I.tab + (SemAt L.s L.I.sem + F)))))) (.inr rfl) rfl; (· first | (refine rv_tmp (v := .bool _) rfl) | exact rv_tmp rfl); (· exact Ent.auto)) | (apply retRD1 (G := (blk x (ideC L) 75 + (blk L.bm (mcs L.I.ms ++ L.sm) 80 + (blk L.bp (zs L.I.ps ++ L.sp) 3 + (TabAt L.q L.I.tab + (SemAt L.s L.I.sem + F)))))) (.inl rfl) rfl; (· first | (refine rv_tmp (v := .bool _) rfl) | exact rv_tmp rfl); (· exact Ent.auto)))
      exact ⟨Ent.refl _, rfl⟩
  · rw [decide_eq_false h0, Bool.false_and]
    obtain ⟨k, _⟩ : ∃ k : Nat, k = k := ⟨0, rfl⟩
    refine fn_intro 31 Tryz.func96 rfl rfl rfl ?_
    refine walk ?_
    (refine wp_draw [] (.look 0 (.look 1 (.look 2 (.look 3 (.look 4 (.look 5 (.look 6 (.look 7 (.look 8 (.look 9 (.look 10 (.look 11 (.look 12 (.look 13 (.look 14 (.look 15 (.look 16 (.look 17 (.look 18 (.look 19 (.look 20 (.look 21 (.look 22 (.look 23 (.look 24 (.look 25 (.look 26 .nil))))))))))))))))))))))))))) (by kernel_rfl) ?_; refine dwP ?_; refine dwP ?_; refine dwP ?_; refine dwL ?_; refine dwP ?_; (apply dw_pure; (· exact rfl); (· exact rfl); (· (intro G; (apply s_indexAddr (j := kp) (o' := kp); (· exact rfl); (· exact rfl); (· omega); (· omega); (· omega); (· exact rfl)); exact looked))); refine dwL ?_; refine dwP ?_; refine dwP ?_; refine dwP ?_; refine dwP ?_; refine dwP ?_; refine dwL ?_; refine dwP ?_; refine dwP ?_; refine dwP ?_; refine dwL ?_; refine dwP ?_; (apply dw_pure; (· exact rfl); (· exact rfl); (· (intro G; (first | (refine step_wanted rfl rfl ?_; (apply s_indexAddr (j := kp) (o' := kp); (· exact rfl); (· exact rfl); (· omega); (· omega); (· omega); (· exact rfl))) | skip); exact looked))); refine dwL ?_; (apply dw_pure; (· exact rfl); (· exact rfl); (· (intro G; (first | (refine step_wanted rfl rfl ?_; (apply s_indexAddr (j := k) (o' := k * 4); (· exact rfl); (· exact rfl); (· omega); (· omega); (· omega); (· exact rfl))) | skip); exact looked))); refine dwP ?_; refine dwP ?_; refine dwL ?_; refine dwP ?_; refine dwP ?_; refine dwP ?_; refine dw_nil ?_)
    refine walk ?_
    (first | (apply retRD1 (G := (blk x (ideC L) 75 + (blk L.bm (mcs L.I.ms ++ L.sm) 80 + (blk L.bp (zs L.I.ps ++ L.sp) 3 + (TabAt L.q L.I.tab + (SemAt L.s L.I.sem + F)))))) (.inr rfl) rfl; (· first | (refine rv_tmp (v := .bool _) rfl) | exact rv_tmp rfl); (· exact Ent.auto)) | (apply retRD1 (G := (blk x (ideC L) 75 + (blk L.bm (mcs L.I.ms ++ L.sm) 80 + (blk L.bp (zs L.I.ps ++ L.sp) 3 + (TabAt L.q L.I.tab + (SemAt L.s L.I.sem + F)))))) (.inl rfl) rfl; (· first | (refine rv_tmp (v := .bool _) rfl) | exact rv_tmp rfl); (· exact Ent.auto)))
    exact ⟨Ent.refl _, rfl⟩
theorem iHas [i : HasAt IdeAt H x L F] (hm : 0 ≤ m ∧ m < L.I.ms.length) (hp : 0 ≤ p ∧ p < L.I.ps.length) : Does Tryz.prog B 35 [ptr x, .int .i64 m, .int .i64 p, .int .i64 a, .int .i64 g] H fun r H' => H' = IdeAt x (L.put (L.I.has m p a g)) + F ∧ r = .tuple #[] := by
  obtain ⟨k, hk, rfl, _⟩ := mAt_of hm
  obtain ⟨kp, hkp, rfl, _⟩ := pAt_of hp
  have hl1 : (mcs L.I.ms).length = L.I.ms.length * 4 := mcs_len _
  have hl2 : (zs L.I.ps).length = L.I.ps.length := zs_length _
  rw [i.eq, ide_open, ide_open]
  refine Does.same ?_
  refine fn_intro 30 Tryz.func35 rfl rfl rfl ?_
  refine walk ?_
  (refine s_build (cs := [.int .i64 a, .int .i64 ((kp : Nat) : Int), .int .i64 g]) ?_ rfl ?_; (· kernel_rfl))
  refine walk ?_
  refine s_storeA (vs := [.int .i64 a, .int .i64 ((kp : Nat) : Int), .int .i64 g]) (cs' := mcs (L.I.ms.modify k fun x => { x with a := a, p := ((kp : Nat) : Int), g := g }) ++ L.sm) rfl rfl rfl rfl ?_ ?_ ?_
  · simp only [List.length_append, List.length_cons, List.length_nil]; omega
  · have := mcs_set3 hk L.sm a ((kp : Nat) : Int) g; simpa using this
  refine walk ?_
  refine s_store (v := .int .i64 ((k : Nat) : Int)) (cs' := zs (L.I.ps.set kp ((k : Nat) : Int)) ++ L.sp) rfl rfl rfl ?_ ?_ ?_
  · simp only [List.length_append, List.length_cons, List.length_nil]; omega
  · rw [List.set_append_left _ _ (by omega)]; simp [zs, List.map_set]
  refine walk ?_
  refine ret0 (.inl rfl) rfl ⟨?_, rfl⟩
  simp only [IdL.put, ideC, Ide.has, List.length_modify, List.length_set, Int.toNat_natCast, if_pos (Int.natCast_nonneg kp)]
  exact Ent.auto
theorem iLeaves [i : HasAt IdeAt H x L F] (hm : 0 ≤ m ∧ m < L.I.ms.length) : Does Tryz.prog B 91 [ptr x, .int .i64 m] H fun r H' => H' = IdeAt x (L.put (L.I.leaves m)) + F ∧ r = .tuple #[] := by
  obtain ⟨k, hk, rfl, _⟩ := mAt_of hm
  have hl1 : (mcs L.I.ms).length = L.I.ms.length * 4 := mcs_len _
  rw [i.eq, ide_open, ide_open]
  refine Does.same ?_
  refine fn_intro 12 Tryz.func91 rfl rfl rfl ?_
  refine walk ?_
  (refine s_build (cs := [.int .i64 0, .int .i64 (-1), .int .i64 (-1)]) ?_ rfl ?_; (· kernel_rfl))
  refine walk ?_
  refine s_storeA (vs := [.int .i64 0, .int .i64 (-1), .int .i64 (-1)]) (cs' := mcs (L.I.ms.modify k fun x => { x with a := 0, p := -1, g := -1 }) ++ L.sm) rfl rfl rfl rfl ?_ ?_ ?_
  · simp only [List.length_append, List.length_cons, List.length_nil]; omega
  · have := mcs_set3 hk L.sm 0 (-1) (-1); simpa using this
  refine walk ?_
  refine ret0 (.inl rfl) rfl ⟨?_, rfl⟩
  simp only [IdL.put, ideC, Ide.leaves, List.length_modify, Int.toNat_natCast]
  exact Ent.auto
theorem iDrops [i : HasAt IdeAt H x L F] (hp : 0 ≤ p ∧ p < L.I.ps.length) (hv : 0 ≤ L.I.pAt p ∧ L.I.pAt p < L.I.ms.length) : Does Tryz.prog B 98 [ptr x, .int .i64 p] H fun r H' => H' = IdeAt x (L.put (L.I.drops p)) + F ∧ r = .tuple #[] := by
  obtain ⟨kp, hkp, hp, hA⟩ := pAt_of hp
  obtain ⟨k, hk, hm, _⟩ := mAt_of (L := L) hv
  have cp := p_cell (B := B) hkp
  have hl1 : (mcs L.I.ms).length = L.I.ms.length * 4 := mcs_len _
  have hpk : L.I.ps[kp] = (k : Int) := by rw [← hA]; exact hm
  have hpt : (L.I.pAt p).toNat = k := by omega
  rw [i.eq, ide_open, ide_open]
  refine Does.same ?_
  refine fn_intro 18 Tryz.func98 rfl rfl rfl ?_
  refine walk ?_
  (refine wp_draw [14] (.look 0 (.look 1 (.look 2 (.look 3 (.look 4 (.look 5 (.look 6 (.look 7 (.look 8 (.look 9 (.look 10 (.look 11 (.look 12 (.look 13 (.act 14 .nil .stop))))))))))))))) (by kernel_rfl) ?_; refine dwP ?_; refine dwP ?_; refine dwP ?_; refine dwL ?_; refine dwP ?_; refine dwP ?_; refine dwP ?_; refine dwL ?_; refine dwP ?_; (apply dw_pure; (· exact rfl); (· exact rfl); (· (intro G; (apply s_indexAddr (j := kp) (o' := kp); (· exact rfl); (· exact rfl); (· omega); (· omega); (· omega); (· exact rfl)); exact looked))); refine dwL ?_; (apply dw_pure; (· exact rfl); (· exact rfl); (· (intro G; (apply s_indexAddr (j := k) (o' := k * 4); (· exact rfl); (· exact rfl); (· omega); (· omega); (· omega); (· exact rfl)); exact looked))); refine dwP ?_; refine dwP ?_; skip)
  refine dw_do0 rfl rfl ?_ dw_stop
  refine s_store (v := .int .i64 (-1)) (cs' := mcs (L.I.ms.modify k fun x => { x with p := -1 }) ++ L.sm) rfl rfl rfl ?_ (mcs_setP hk _ _) ?_
  · simp only [List.length_append, List.length_cons, List.length_nil]; omega
  refine wpl_nil (qone0 ⟨(by refine st_past (by kernel_rfl) ?_; refine st_past (by kernel_rfl) ?_; refine st_past (by kernel_rfl) ?_; exact st_nil), ?_⟩)
  (refine dw_nil ?_; skip)
  refine walk ?_
  refine ret0 (.inl rfl) rfl ⟨?_, rfl⟩
  simp only [IdL.put, ideC, Ide.drops, List.length_modify, hpt]
  exact Ent.auto
end
end Go.Proofs.YtlhnmbajbhaaoaaGreat
namespace Go.Proofs.YtlhnmbajbhaaoaaGreat
open Go Go.SL
set_option linter.unusedSimpArgs false
set_option linter.unusedVariables false
set_option maxRecDepth 10000
set_option maxHeartbeats 2000000
attribute [local irreducible] WP WPL QSeq QBlk QRet Does Cell Cells Rd Mine Ent Aside RV Yield TabAt SemAt
section
variable {B : World} {H F G : HProp} {x : Nat} {L : IdL} {n : Nt} {m p a g s : Int} {k j : Nat} {K : Int}
theorem ide_cell {v : Value} (hv : (ideC L)[j]? = some v) : Cell B (IdeAt x L) x j v := by
  unfold IdeAt
  exact Cell.blk hv
theorem ide_m (hk : k < L.I.ms.length) {v : Value} (hj : j < 4) (hv : (mcC L.I.ms[k])[j]? = some v) : Cell B (IdeAt x L) L.bm (k * 4 + j) v := by
  unfold IdeAt
  exact (m_cell hk hj hv).ent ((Ent.drop_left _ _).trans (Ent.drop_right _ _))
theorem ide_p (hk : k < L.I.ps.length) : Cell B (IdeAt x L) L.bp k (.int .i64 L.I.ps[k]) := by
  unfold IdeAt
  exact (p_cell hk).ent ((Ent.drop_left _ _).trans ((Ent.drop_left _ _).trans (Ent.drop_right _ _)))
instance ideTab : HasAt TabAt (IdeAt x L) L.q L.I.tab (blk x (ideC L) 75 + (blk L.bm (mcs L.I.ms ++ L.sm) 80 + (blk L.bp (zs L.I.ps ++ L.sp) 3 + SemAt L.s L.I.sem))) := ⟨by unfold IdeAt; ac_rfl⟩
instance ideSem : HasAt SemAt (IdeAt x L) L.s L.I.sem (blk x (ideC L) 75 + (blk L.bm (mcs L.I.ms ++ L.sm) 80 + (blk L.bp (zs L.I.ps ++ L.sp) 3 + TabAt L.q L.I.tab))) := ⟨by unfold IdeAt; ac_rfl⟩
theorem iStat [i : HasAt IdeAt H x L F] : Does Tryz.prog B 43 [ptr L.q, .int .i64 g] H fun r H' => H' = H ∧ r = .tuple #[.int .i64 (L.I.stat g), .bool (decide (0 ≤ g ∧ g < L.I.tab.all.length))] := by
  rw [i.eq]
  refine (tStatus (p := L.q) (T := L.I.tab) (g := g)).weak fun r H' ⟨e, hr⟩ => ⟨_, Ent.refl _, e, ?_⟩
  rw [hr]
  unfold Ide.stat
  by_cases h : 0 ≤ g ∧ g < L.I.tab.all.length
  · rw [if_pos h, if_pos h, decide_eq_true h]
  · rw [if_neg h, if_neg h, decide_eq_false h]
theorem iCount [i : HasAt IdeAt H x L F] : Does Tryz.prog B 44 [ptr L.s, .int .i64 s] H fun r H' => H' = H ∧ r = .int .i64 (L.I.count s) := by
  rw [i.eq]
  exact sCountA (p := L.s) (S := L.I.sem) (k := s)
theorem rowS_all (hk : ∀ (i : Nat) (l : List Int) (y : Int), L.I.sem[i]? = some (l, y) → (l.length : Int) ≤ K) (hK : K ≤ 100000) : LOk L.I.sem := fun i l y h => by have := hk i l y h; omega
theorem iFirst [i : HasAt IdeAt H x L F] (hl : LOk L.I.sem) : Does Tryz.prog B 78 [ptr x, .int .i64 s, .int .i64 g] H fun r H' => H' = H ∧ r = .bool (L.I.first s g) := by
  have z0 : Cell B (IdeAt x L) x 0 (.int .i64 L.I.c.n) := ide_cell rfl
  have z3 : Cell B (IdeAt x L) x 3 (.int .i64 L.I.c.m) := ide_cell rfl
  have z6 : Cell B (IdeAt x L) x 6 (ptr L.q) := ide_cell rfl
  have z7 : Cell B (IdeAt x L) x 7 (ptr L.s) := ide_cell rfl
  have z8 : Cell B (IdeAt x L) x 8 (.slice (some ⟨L.bm, 0, none⟩) L.I.ms.length L.cm) := ide_cell rfl
  have z9 : Cell B (IdeAt x L) x 9 (.slice (some ⟨L.bp, 0, none⟩) L.I.ps.length L.cp) := ide_cell rfl
  rw [i.eq]
  unfold Ide.first
  refine Does.frame0 ?_
  obtain ⟨R, hR⟩ : ∃ R, rowS L.I.sem s = R := ⟨_, rfl⟩
  rw [hR]
  by_cases hg : g < 0
  · rw [if_pos hg]
    cases R with
    | nil =>
      refine fn_intro 29 Tryz.func78 rfl rfl rfl ?_
      refine walk ?_
      refine s_call rfl (sWaitingA (p := L.s) (S := L.I.sem) (k := s) hl) rfl ?_
      rintro r _ rfl
      refine WPL.shape ?_
      rintro ao cap rfl hl1 hl2 hl3
      refine WPL.rd fun rd => ?_
      rw [hR]
      simp only [List.length_nil, List.length_cons]
      refine walk ?_
      (first | (apply retRD1 (G := (IdeAt x L + F)) (.inr rfl) rfl; (· first | (refine rv_tmp (v := .bool _) rfl) | exact rv_tmp rfl); (· exact Ent.auto)) | (apply retRD1 (G := (IdeAt x L + F)) (.inl rfl) rfl; (· first | (refine rv_tmp (v := .bool _) rfl) | exact rv_tmp rfl); (· exact Ent.auto)))
      exact ⟨Ent.refl _, rfl⟩
    | cons y R =>
      refine fn_intro 29 Tryz.func78 rfl rfl rfl ?_
      refine walk ?_
      refine s_call rfl (sWaitingA (p := L.s) (S := L.I.sem) (k := s) hl) rfl ?_
      rintro r _ rfl
      refine WPL.shape ?_
      rintro ao cap rfl hl1 hl2 hl3
      refine WPL.rd fun rd => ?_
      rw [hR]
      simp only [List.length_nil, List.length_cons]
      refine walk ?_
      (first | (apply retRD1 (G := (IdeAt x L + F)) (.inr rfl) rfl; (· first | (refine rv_tmp (v := .bool _) rfl) | exact rv_tmp rfl); (· exact Ent.auto)) | (apply retRD1 (G := (IdeAt x L + F)) (.inl rfl) rfl; (· first | (refine rv_tmp (v := .bool _) rfl) | exact rv_tmp rfl); (· exact Ent.auto)))
      exact ⟨Ent.refl _, rfl⟩
  · rw [if_neg hg]
    cases R with
    | nil =>
      refine fn_intro 29 Tryz.func78 rfl rfl rfl ?_
      refine walk ?_
      refine s_call rfl (sWaitingA (p := L.s) (S := L.I.sem) (k := s) hl) rfl ?_
      rintro r _ rfl
      refine WPL.shape ?_
      rintro ao cap rfl hl1 hl2 hl3
      refine WPL.rd fun rd => ?_
      rw [hR]
      simp only [List.length_nil, List.length_cons]
      refine walk ?_
      (first | (apply retRD1 (G := (IdeAt x L + F)) (.inr rfl) rfl; (· first | (refine rv_tmp (v := .bool _) rfl) | exact rv_tmp rfl); (· exact Ent.auto)) | (apply retRD1 (G := (IdeAt x L + F)) (.inl rfl) rfl; (· first | (refine rv_tmp (v := .bool _) rfl) | exact rv_tmp rfl); (· exact Ent.auto)))
      exact ⟨Ent.refl _, rfl⟩
    | cons y R =>
      by_cases hy : y = g
      · skip
        refine fn_intro 29 Tryz.func78 rfl rfl rfl ?_
        refine walk ?_
        refine s_call rfl (sWaitingA (p := L.s) (S := L.I.sem) (k := s) hl) rfl ?_
        rintro r _ rfl
        refine WPL.shape ?_
        rintro ao cap rfl hl1 hl2 hl3
        refine WPL.rd fun rd => ?_
        rw [hR] at rd ⊢
        simp only [List.length_cons] at rd ⊢
        obtain ⟨ao', cap', hv, _, _, hc⟩ := (by unfold Rd at rd; exact rd)
        obtain ⟨b, o, rfl, hcs⟩ := Rd.addr (k := 0) (by rw [zs_length, Nat.mul_one]) hc (by simp)
        cases hv
        have hcell := hcs.cell (j := 0) rfl
        refine walk ?_
        (first | refine step_wanted rfl rfl ?_ | skip)
        (apply s_indexAddr (j := 0) (o' := o); (· exact rfl); (· exact rfl); (· omega); (· omega); (· omega); (· exact rfl))
        refine walk ?_
        (first | (apply retRD1 (G := (IdeAt x L + F)) (.inr rfl) rfl; (· first | (refine rv_tmp (v := .bool _) rfl) | exact rv_tmp rfl); (· exact Ent.auto)) | (apply retRD1 (G := (IdeAt x L + F)) (.inl rfl) rfl; (· first | (refine rv_tmp (v := .bool _) rfl) | exact rv_tmp rfl); (· exact Ent.auto)))
        exact ⟨Ent.refl _, by simp [hy]⟩
      · skip
        refine fn_intro 29 Tryz.func78 rfl rfl rfl ?_
        refine walk ?_
        refine s_call rfl (sWaitingA (p := L.s) (S := L.I.sem) (k := s) hl) rfl ?_
        rintro r _ rfl
        refine WPL.shape ?_
        rintro ao cap rfl hl1 hl2 hl3
        refine WPL.rd fun rd => ?_
        rw [hR] at rd ⊢
        simp only [List.length_cons] at rd ⊢
        obtain ⟨ao', cap', hv, _, _, hc⟩ := (by unfold Rd at rd; exact rd)
        obtain ⟨b, o, rfl, hcs⟩ := Rd.addr (k := 0) (by rw [zs_length, Nat.mul_one]) hc (by simp)
        cases hv
        have hcell := hcs.cell (j := 0) rfl
        refine walk ?_
        (first | refine step_wanted rfl rfl ?_ | skip)
        (apply s_indexAddr (j := 0) (o' := o); (· exact rfl); (· exact rfl); (· omega); (· omega); (· omega); (· exact rfl))
        refine walk ?_
        (first | (apply retRD1 (G := (IdeAt x L + F)) (.inr rfl) rfl; (· first | (refine rv_tmp (v := .bool _) rfl) | exact rv_tmp rfl); (· exact Ent.auto)) | (apply retRD1 (G := (IdeAt x L + F)) (.inl rfl) rfl; (· first | (refine rv_tmp (v := .bool _) rfl) | exact rv_tmp rfl); (· exact Ent.auto)))
        exact ⟨Ent.refl _, by simp [hy]⟩
theorem callers_take (hk : k < L.I.ms.length) : (L.I.ms.take (k + 1)).countP (fun m => decide (m.a = 3)) = (L.I.ms.take k).countP (fun m => decide (m.a = 3)) + if L.I.ms[k].a = 3 then 1 else 0 := by
  rw [List.take_succ_eq_append_getElem hk, List.countP_append]
  simp [List.countP_cons]
theorem ide_c4 (hk : k < L.I.ms.length) : Cells B (IdeAt x L) L.bm (k * 4) (mcC L.I.ms[k]) := by
  have h : Cells B (blk L.bm (mcs L.I.ms ++ L.sm) 80) L.bm (k * 4) (mcC L.I.ms[k]) := by
    rw [← HProp.add_emp (blk L.bm (mcs L.I.ms ++ L.sm) 80)]
    exact Cells.blk fun j v hj => by
      have hj4 : j < 4 := (List.getElem?_eq_some_iff.1 hj).1
      rw [mcs_at hk hj4]; exact hj
  unfold IdeAt
  exact h.ent ((Ent.drop_left _ _).trans (Ent.drop_right _ _))
theorem iCallers [i : HasAt IdeAt H x L F] (hl : L.I.ms.length ≤ 16) : Does Tryz.prog B 41 [ptr x] H fun r H' => H' = H ∧ r = .int .i64 (L.I.callers : Int) := by
  have z0 : Cell B (IdeAt x L) x 0 (.int .i64 L.I.c.n) := ide_cell rfl
  have z3 : Cell B (IdeAt x L) x 3 (.int .i64 L.I.c.m) := ide_cell rfl
  have z6 : Cell B (IdeAt x L) x 6 (ptr L.q) := ide_cell rfl
  have z7 : Cell B (IdeAt x L) x 7 (ptr L.s) := ide_cell rfl
  have z8 : Cell B (IdeAt x L) x 8 (.slice (some ⟨L.bm, 0, none⟩) L.I.ms.length L.cm) := ide_cell rfl
  have z9 : Cell B (IdeAt x L) x 9 (.slice (some ⟨L.bp, 0, none⟩) L.I.ps.length L.cp) := ide_cell rfl
  rw [i.eq]
  refine Does.frame0 ?_
  refine fn_intro 24 Tryz.func41 rfl rfl rfl ?_
  refine walk ?_
  refine wp_loopF (α := Nat) [2, 4, 12, 13, 14, 15, 16, 17, 18, 19, 20, 21, 22] (fun k => [(12, .int .i64 k), (2, .int .i64 ((L.I.ms.take k).countP (fun m => decide (m.a = 3)) : Nat))]) (fun _ => IdeAt x L + F) (fun k => k ≤ L.I.ms.length) (fun k => L.I.ms.length - k) 0 agreed (Ent.refl _) (by omega) ?_
  intro k f hk
  simp only [putAll]
  by_cases hlt : k < L.I.ms.length
  · have c4 := ide_c4 (B := B) (x := x) hlt
    have c4' : Cells B (IdeAt x L) L.bm (0 + k * 4) (mcC L.I.ms[k]) := by rw [Nat.zero_add]; exact c4
    have ct := callers_take hlt
    have cb := List.countP_le_length (p := fun m : Mc => decide (m.a = 3)) (l := L.I.ms.take k)
    rw [List.length_take] at cb
    refine walk ?_
    refine s_alloc rfl ?_
    intro b
    refine walk ?_
    refine s_storeW (vs := mcC L.I.ms[k]) (cs := [.int .i64 0, .int .i64 0, .int .i64 0, .int .i64 0]) rfl rfl rfl rfl rfl ?_
    by_cases h3 : L.I.ms[k].a = 3
    · rw [if_pos h3] at ct
      refine walk ?_
      exact ⟨k + 1, asided, agreed, Ent.auto, by omega, by omega⟩
    · rw [if_neg h3] at ct
      refine walk ?_
      exact ⟨k + 1, asided, agreed, Ent.auto, by omega, by omega⟩
  · have e : L.I.ms.take k = L.I.ms := List.take_of_length_le (by omega)
    rw [e]
    refine walk ?_
    (first | (apply retRD1 (G := (IdeAt x L + F)) (.inr rfl) rfl; (· first | (refine rv_tmp (v := .int _ _) rfl) | exact rv_tmp rfl); (· exact Ent.auto)) | (apply retRD1 (G := (IdeAt x L + F)) (.inl rfl) rfl; (· first | (refine rv_tmp (v := .int _ _) rfl) | exact rv_tmp rfl); (· exact Ent.auto)))
    exact ⟨Ent.refl _, rfl⟩
end
end Go.Proofs.YtlhnmbajbhaaoaaGreat
