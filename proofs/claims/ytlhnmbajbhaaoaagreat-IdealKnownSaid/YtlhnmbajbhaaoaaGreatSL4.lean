/- Rules for walks: what one's own memory is, and what each operation does. No condition. -/
import Derived.Test.YtlhnmbajbhaaoaaGreatSL2
import Derived.Test.YtlhnmbajbhaaoaaGreatSL1
import Derived.WideShapes
import Derived.ChangeArms
set_option linter.unusedSimpArgs false
set_option linter.unusedVariables false
namespace Go.SL
open Go Go.RowKit
set_option maxRecDepth 10000
theorem walkQ {p q : Prop} (k : q) (h : Owed q → p := by
  intro k_
  (repeat (first | (show WPL _ _ _ _ _ (⟨_, .move _, _, _, _, none⟩ :: _) _ _ _; first | refine s_move (v := .int _ _) rfl rfl ?_ | refine s_move (v := .pointer _) rfl rfl ?_ | refine s_move (v := .slice _ _ _) rfl rfl ?_ | refine s_move (v := .bool _) rfl rfl ?_ | refine s_move (v := .agg _) rfl rfl ?_ | refine s_move (v := .string _) rfl rfl ?_ | refine s_move (v := .tuple _) rfl rfl ?_ | refine s_move (v := .map _) rfl rfl ?_ | refine s_move (v := .nilIface) rfl rfl ?_ | refine s_move (v := .iface _ _) rfl rfl ?_ | refine s_move (v := .func _ _ _) rfl rfl ?_ | refine s_move (v := .float _ _) rfl rfl ?_ | refine s_move rfl rfl ?_) | (show WPL _ _ _ _ _ (⟨_, .assign _, _, _, _, none⟩ :: _) _ _ _; first | refine s_assign (v := .int _ _) rfl rfl ?_ | refine s_assign (v := .pointer _) rfl rfl ?_ | refine s_assign (v := .slice _ _ _) rfl rfl ?_ | refine s_assign (v := .bool _) rfl rfl ?_ | refine s_assign (v := .agg _) rfl rfl ?_ | refine s_assign (v := .string _) rfl rfl ?_ | refine s_assign (v := .tuple _) rfl rfl ?_ | refine s_assign (v := .map _) rfl rfl ?_ | refine s_assign (v := .nilIface) rfl rfl ?_ | refine s_assign (v := .iface _ _) rfl rfl ?_ | refine s_assign (v := .func _ _ _) rfl rfl ?_ | refine s_assign (v := .float _ _) rfl rfl ?_ | refine s_assign rfl rfl ?_) | (show WPL _ _ _ _ _ (⟨_, .load _ _, _, _, _, none⟩ :: _) _ _ _; first | refine s_load (v := .int _ _) rfl (Cell.blk rfl) rfl ?_ | refine s_load (v := .pointer _) rfl (Cell.blk rfl) rfl ?_ | refine s_load (v := .slice _ _ _) rfl (Cell.blk rfl) rfl ?_ | refine s_load (v := .bool _) rfl (Cell.blk rfl) rfl ?_ | refine s_load (v := .agg _) rfl (Cell.blk rfl) rfl ?_ | refine s_load (v := .string _) rfl (Cell.blk rfl) rfl ?_ | refine s_load (v := .tuple _) rfl (Cell.blk rfl) rfl ?_ | refine s_load (v := .map _) rfl (Cell.blk rfl) rfl ?_ | refine s_load (v := .nilIface) rfl (Cell.blk rfl) rfl ?_ | refine s_load (v := .iface _ _) rfl (Cell.blk rfl) rfl ?_ | refine s_load (v := .func _ _ _) rfl (Cell.blk rfl) rfl ?_ | refine s_load (v := .float _ _) rfl (Cell.blk rfl) rfl ?_ | (apply s_load; (· exact rfl); (· assumption); (· exact rfl)) | (apply s_load; (· exact rfl); (· (apply Cell.ent; (· assumption); (· exact InH.ent))); (· exact rfl)) | (refine s_load rfl (Cell.atZs ?_) rfl ?_; · omega) | (refine s_load rfl (Cell.atZsA ?_) rfl ?_; · omega) | (apply s_load; (· exact rfl); (· (apply Cells.atZs; (· assumption); (· omega); (· exact InH.ent))); (· exact rfl)) | refine s_loadA rfl Cells.blk0 rfl rfl ?_ | (apply s_loadA; (· exact rfl); (· assumption); (· exact rfl); (· exact rfl)) | (apply s_loadA; (· exact rfl); (· (apply Cells.ent; (· assumption); (· exact InH.ent))); (· exact rfl); (· exact rfl))) | (show WPL _ _ _ _ _ (⟨_, .fieldAddr _ _ _, _, _, _, none⟩ :: _) _ _ _; first | refine s_fieldAddr0 rfl rfl ?_ | refine s_fieldAddr rfl rfl rfl ?_) | (show WPL _ _ _ _ _ (⟨_, .nilCheck _, _, _, _, none⟩ :: _) _ _ _; first | refine s_nilCheck rfl rfl ?_) | (show WPL _ _ _ _ _ (⟨_, .indexAddr _ _ _, _, _, _, none⟩ :: _) _ _ _; first | (refine s_indexAddr0 rfl rfl ?_ rfl ?_; · omega) | (refine s_indexAddr1 rfl rfl ?_ rfl ?_; · omega) | (refine s_indexAddr rfl rfl rfl ?_ rfl rfl ?_; · omega)) | (show WPL _ _ _ _ _ (⟨_, .call _, _, _, _, none⟩ :: _) _ _ _; first | refine s_len rfl rfl ?_) | (show WPL _ _ _ _ _ (⟨_, .binOp .add _ _ _ _, _, _, _, none⟩ :: _) _ _ _; first | (refine s_add rfl rfl rfl ?_ rfl ?_; · omega) | (refine s_addw rfl rfl (intU32 ?_) rfl ?_; · omega) | (refine s_addw rfl rfl (intU64 ?_) rfl ?_; · omega) | (refine s_addw rfl rfl (intU8 ?_) rfl ?_; · omega) | (refine s_addw rfl rfl (intI32 ?_) rfl ?_; · omega) | refine s_addw rfl rfl (wrapU32 _) rfl ?_ | refine s_addw rfl rfl (wrapU64 _) rfl ?_ | refine s_addw rfl rfl (wrapU8 _) rfl ?_) | (show WPL _ _ _ _ _ (⟨_, .binOp .mul _ _ _ _, _, _, _, none⟩ :: _) _ _ _; first | (refine s_mul rfl rfl rfl ?_ rfl ?_; · omega) | (refine s_mulw rfl rfl (intU32 ?_) rfl ?_; · omega) | (refine s_mulw rfl rfl (intU64 ?_) rfl ?_; · omega) | (refine s_mulw rfl rfl (intU8 ?_) rfl ?_; · omega) | (refine s_mulw rfl rfl (intI32 ?_) rfl ?_; · omega) | refine s_mulw rfl rfl (wrapU32 _) rfl ?_ | refine s_mulw rfl rfl (wrapU64 _) rfl ?_ | refine s_mulw rfl rfl (wrapU8 _) rfl ?_) | (show WPL _ _ _ _ _ (⟨_, .binOp .rem _ _ _ _, _, _, _, none⟩ :: _) _ _ _; first | (refine s_remP rfl rfl ?_ rfl ?_; · omega)) | (show WPL _ _ _ _ _ (⟨_, .binOp .quo _ _ _ _, _, _, _, none⟩ :: _) _ _ _; first | (refine s_quoP rfl rfl ?_ rfl ?_; · omega)) | (show WPL _ _ _ _ _ (⟨_, .binOp .sub _ _ _ _, _, _, _, none⟩ :: _) _ _ _; first | (refine s_sub rfl rfl rfl ?_ rfl ?_; · omega) | (refine s_subw rfl rfl (intU32 ?_) rfl ?_; · omega) | (refine s_subw rfl rfl (intU64 ?_) rfl ?_; · omega) | (refine s_subw rfl rfl (intU8 ?_) rfl ?_; · omega) | (refine s_subw rfl rfl (intI32 ?_) rfl ?_; · omega) | refine s_subw rfl rfl (wrapU32 _) rfl ?_ | refine s_subw rfl rfl (wrapU64 _) rfl ?_ | refine s_subw rfl rfl (wrapU8 _) rfl ?_) | (show WPL _ _ _ _ _ (⟨_, .binOp .lss _ _ _ _, _, _, _, none⟩ :: _) _ _ _; first | (refine s_lss_t rfl rfl ?_ rfl ?_; · omega) | (refine s_lss_f rfl rfl ?_ rfl ?_; · omega)) | (show WPL _ _ _ _ _ (⟨_, .binOp .eql _ _ _ _, _, _, _, none⟩ :: _) _ _ _; first | (refine s_eql_t rfl rfl ?_ rfl ?_; · omega) | (refine s_eql_f rfl rfl ?_ rfl ?_; · omega) | refine s_eqnil rfl rfl (b := true) rfl rfl ?_ | refine s_eqnil rfl rfl (b := false) rfl rfl ?_ | refine s_eqbool rfl rfl (b := true) rfl rfl ?_ | refine s_eqbool rfl rfl (b := false) rfl rfl ?_ | (refine s_eqbool rfl rfl (b := true) ?_ rfl ?_; · simp)) | (show WPL _ _ _ _ _ (⟨_, .binOp .neq _ _ _ _, _, _, _, none⟩ :: _) _ _ _; first | (refine s_neq_t rfl rfl ?_ rfl ?_; · omega) | (refine s_neq_f rfl rfl ?_ rfl ?_; · omega) | refine s_nenil rfl rfl (b := true) rfl rfl ?_ | refine s_nenil rfl rfl (b := false) rfl rfl ?_ | refine s_nebool rfl rfl (b := true) rfl rfl ?_ | refine s_nebool rfl rfl (b := false) rfl rfl ?_ | (refine s_nebool rfl rfl (b := false) ?_ rfl ?_; · simp) | (apply s_neqS (xs := [_, _]) (ys := [_, _]); (· exact rfl); (· exact rfl); (· exact rfl); (· exact rfl); (· assumption); (· exact rfl))) | (show WPL _ _ _ _ _ (⟨_, .binOp .geq _ _ _ _, _, _, _, none⟩ :: _) _ _ _; first | (refine s_geq_t rfl rfl ?_ rfl ?_; · omega) | (refine s_geq_f rfl rfl ?_ rfl ?_; · omega)) | (show WPL _ _ _ _ _ (⟨_, .binOp .leq _ _ _ _, _, _, _, none⟩ :: _) _ _ _; first | (refine s_leq_t rfl rfl ?_ rfl ?_; · omega) | (refine s_leq_f rfl rfl ?_ rfl ?_; · omega)) | (show WPL _ _ _ _ _ (⟨_, .binOp .gtr _ _ _ _, _, _, _, none⟩ :: _) _ _ _; first | (refine s_gtr_t rfl rfl ?_ rfl ?_; · omega) | (refine s_gtr_f rfl rfl ?_ rfl ?_; · omega)) | (show WPL _ _ _ _ _ (⟨_, .convert _ _ _, _, _, _, none⟩ :: _) _ _ _; first | (refine s_conv rfl (intI64 ?_) rfl ?_; · omega) | (refine s_conv rfl (intU32 ?_) rfl ?_; · omega) | (refine s_conv rfl (intU64 ?_) rfl ?_; · omega) | (refine s_conv rfl (intU8 ?_) rfl ?_; · omega) | (refine s_conv rfl (intI32 ?_) rfl ?_; · omega) | refine s_conv rfl (wrapU32 _) rfl ?_ | refine s_conv rfl (wrapU64 _) rfl ?_ | refine s_conv rfl (wrapU8 _) rfl ?_) | (show WPL _ _ _ _ _ (⟨_, .unOp .not _ _, _, _, _, none⟩ :: _) _ _ _; first | refine s_not (c := true) rfl rfl rfl ?_ | refine s_not (c := false) rfl rfl rfl ?_) | (show WPL _ _ _ _ _ (⟨_, .pick _ _ _, _, _, _, none⟩ :: _) _ _ _; first | refine s_pick_t (v := .int _ _) rfl rfl rfl ?_ | refine s_pick_f (v := .int _ _) rfl rfl rfl ?_ | refine s_pick_t (v := .pointer _) rfl rfl rfl ?_ | refine s_pick_f (v := .pointer _) rfl rfl rfl ?_ | refine s_pick_t (v := .slice _ _ _) rfl rfl rfl ?_ | refine s_pick_f (v := .slice _ _ _) rfl rfl rfl ?_ | refine s_pick_t (v := .bool _) rfl rfl rfl ?_ | refine s_pick_f (v := .bool _) rfl rfl rfl ?_ | refine s_pick_t (v := .agg _) rfl rfl rfl ?_ | refine s_pick_f (v := .agg _) rfl rfl rfl ?_ | refine s_pick_t (v := .string _) rfl rfl rfl ?_ | refine s_pick_f (v := .string _) rfl rfl rfl ?_ | refine s_pick_t (v := .tuple _) rfl rfl rfl ?_ | refine s_pick_f (v := .tuple _) rfl rfl rfl ?_ | refine s_pick_t (v := .map _) rfl rfl rfl ?_ | refine s_pick_f (v := .map _) rfl rfl rfl ?_ | refine s_pick_t (v := .nilIface) rfl rfl rfl ?_ | refine s_pick_f (v := .nilIface) rfl rfl rfl ?_ | refine s_pick_t (v := .iface _ _) rfl rfl rfl ?_ | refine s_pick_f (v := .iface _ _) rfl rfl rfl ?_ | refine s_pick_t (v := .func _ _ _) rfl rfl rfl ?_ | refine s_pick_f (v := .func _ _ _) rfl rfl rfl ?_ | refine s_pick_t (v := .float _ _) rfl rfl rfl ?_ | refine s_pick_f (v := .float _ _) rfl rfl rfl ?_) | (show WPL _ _ _ _ _ (⟨_, .extract _ _, _, _, _, none⟩ :: _) _ _ _; first | refine s_extract (v := .int _ _) rfl rfl rfl ?_ | refine s_extract (v := .pointer _) rfl rfl rfl ?_ | refine s_extract (v := .slice _ _ _) rfl rfl rfl ?_ | refine s_extract (v := .bool _) rfl rfl rfl ?_ | refine s_extract (v := .agg _) rfl rfl rfl ?_ | refine s_extract (v := .string _) rfl rfl rfl ?_ | refine s_extract (v := .tuple _) rfl rfl rfl ?_ | refine s_extract (v := .map _) rfl rfl rfl ?_ | refine s_extract (v := .nilIface) rfl rfl rfl ?_ | refine s_extract (v := .iface _ _) rfl rfl rfl ?_ | refine s_extract (v := .func _ _ _) rfl rfl rfl ?_ | refine s_extract (v := .float _ _) rfl rfl rfl ?_) | (show WPL _ _ _ _ _ (⟨_, _, _, _, _, some _⟩ :: _) _ _ _; first | refine step_wanted rfl rfl ?_ | refine step_unwanted rfl rfl rfl rfl ?_ | refine step_unwanted0 rfl rfl rfl ?_ | refine step_unwantedU rfl rfl rfl ?_ | refine step_unwantedU0 rfl rfl ?_) | refine wpl_nil_seq ?_ | refine wp_seq' ?_ | refine wp_cond_t rfl ?_ | refine wp_cond_f rfl ?_ | refine wp_skip' ?_ | refine q_seq ?_ | refine wp_ret' ?_ | refine wp_exit' ?_ | refine q_seq_ret ?_ | refine q_seq_exit ?_ | refine q_blk_ret ?_ | refine q_blk_here ?_ | refine q_blk_exit rfl ?_ | refine q_blk ?_ | refine wpl_nil ?_))
  exact k_.get) : p := h ⟨k⟩
end Go.SL
set_option linter.unusedSimpArgs false
set_option linter.unusedVariables false
namespace Go.SL
open Go Go.RowKit Go.ChangeShapes Go.WideShapes Go.ChangeAt

/-- The shapes of flat types, and of slices of them. -/
inductive Shape where
  | bool
  | int (k : IntKind)
  | float (k : FloatKind)
  | str
  | unit
  | cat (a : Shape) (n : Nat) (b : Shape)
  | slice (sz : Nat) (e : Shape)
/-- Cells of a shape. -/
def Has (w : World) : Shape → List Value → Prop
  | .bool, cs => ∃ b, cs = [.bool b]
  | .int k, cs => ∃ n, cs = [.int k n] ∧ (Lit.int k n).wf = true
  | .float k, cs => ∃ b, cs = [.float k b] ∧ (Lit.float k b).wf = true
  | .str, cs => ∃ s : ByteArray, cs = [.string s] ∧ s.size ≤ maxLen
  | .unit, cs => cs = []
  | .cat a n b, cs => Has w a (cs.take n) ∧ Has w b (cs.drop n)
  | .slice sz e, cs => ∃ (ao : Option Addr) (len cap : Nat) (rows : List (List Value)), cs = [.slice ao len cap] ∧ len ≤ cap ∧ cap ≤ maxLen ∧ rows.length = len ∧ (∀ r ∈ rows, r.length = sz ∧ Has w e r) ∧
      (len = 0 ∨ sz = 0 ∨ ∃ b o, ao = some ⟨b, o, none⟩ ∧ ∀ (i : Nat) (r : List Value), rows[i]? = some r → ∀ (j : Nat) (v : Value), r[j]? = some v → w.cell? ⟨b, o + i * sz + j, none⟩ = some v)

section
variable {H : Type} {enc : TypeId × Value → H} {P : Program} {w : World} {base : Nat} {spare : Nat → Bool} {held : Bool}
end

/-- Rows that all come of something come of a list. -/
theorem rows_of {α : Type} (enc : α → List Value) : ∀ (rows : List (List Value)), (∀ r ∈ rows, ∃ a, r = enc a) → ∃ l : List α, rows = l.map enc
  | [], _ => ⟨[], rfl⟩
  | r :: rows, h => by
    obtain ⟨a, ha⟩ := h r (by simp)
    obtain ⟨l, hl⟩ := rows_of enc rows fun r hr => h r (by simp [hr])
    exact ⟨a :: l, by rw [ha, hl]; rfl⟩
theorem flat_get {α : Type} (enc : α → List Value) (sz : Nat) (hsz : ∀ a, (enc a).length = sz) : ∀ (l : List α) (i : Nat) (h : i < l.length) (j : Nat), j < sz → (l.flatMap enc)[i * sz + j]? = (enc l[i])[j]?
  | [], i, h, _, _ => by simp at h
  | a :: l, 0, h, j, hj => by simp [List.getElem?_append_left (show j < (enc a).length by rw [hsz]; exact hj)]
  | a :: l, i + 1, h, j, hj => by
    have e : (i + 1) * sz + j = (enc a).length + (i * sz + j) := by rw [hsz, Nat.add_mul]; omega
    rw [List.flatMap_cons, e, List.getElem?_append_right (by omega), Nat.add_sub_cancel_left]
    simpa using flat_get enc sz hsz l i (by simpa using h) j hj
theorem flat_length {α : Type} (enc : α → List Value) (sz : Nat) (hsz : ∀ a, (enc a).length = sz) (l : List α) : (l.flatMap enc).length = l.length * sz := by
  induction l with
  | nil => simp
  | cons a l ih => simp only [List.flatMap_cons, List.length_append, hsz, ih, List.length_cons, Nat.add_mul]; omega
/-- A slice that came in can be read, at the start and ever after. -/
theorem Has.rd {W : World} {sz : Nat} {e : Shape} {v : Value} {α : Type} (enc : α → List Value) (hsz : ∀ a, (enc a).length = sz) (h0 : 0 < sz) (h : Has W (.slice sz e) [v]) (hr : ∀ r : List Value, r.length = sz → Has W e r → ∃ a, r = enc a) :
    ∃ l : List α, (∀ H : HProp, Rd W H sz v l.length (l.flatMap enc)) ∧ ∃ ao cap, v = .slice ao l.length cap ∧ l.length ≤ cap ∧ cap ≤ maxLen := by
  obtain ⟨ao, len, cap, rows, hv, hl, hm, hlen, hrows, hc⟩ := h
  cases hv
  obtain ⟨l, rfl⟩ := rows_of enc rows fun r hr' => hr r (hrows r hr').1 (hrows r hr').2
  simp only [List.length_map] at hlen
  subst hlen
  refine ⟨l, fun H => ⟨ao, cap, rfl, flat_length enc sz hsz l, by omega, ?_⟩, ao, cap, rfl, hl, hm⟩
  rcases hc with h | h | ⟨b, o, ha, hc⟩
  · left
    have : l = [] := List.eq_nil_of_length_eq_zero h
    subst this; rfl
  · omega
  · right
    refine ⟨b, o, ha, Cells.base fun k u hk => ?_⟩
    have hkl : k < l.length * sz := by have := (List.getElem?_eq_some_iff.1 hk).1; rwa [flat_length enc sz hsz] at this
    have hi : k / sz < l.length := Nat.div_lt_of_lt_mul (by rw [Nat.mul_comm]; exact hkl)
    have hj : k % sz < sz := Nat.mod_lt _ h0
    have hk2 : k / sz * sz + k % sz = k := by rw [Nat.mul_comm]; exact Nat.div_add_mod k sz
    rw [← hk2, flat_get enc sz hsz l _ hi _ hj] at hk
    have := hc (k / sz) (enc l[k / sz]) (by simp [hi]) (k % sz) u hk
    rw [Nat.add_assoc, hk2] at this
    exact this
end Go.SL
