/- The law: whatever is called on semaphores. No condition. -/
import Derived.Test.YtgdeemneijpeeaaSmLaw16a
namespace Go.Proofs.Ytgdeemneijpeeaa
open Go Go.SL
set_option linter.unusedSimpArgs false
set_option linter.unusedVariables false
set_option maxRecDepth 10000
set_option maxHeartbeats 4000000
/-- A call: what is done, where, who. -/
abbrev ActT := Int × Int × Int
def actC (a : ActT) : List Value := [.int .i64 a.1, .int .i64 a.2.1, .int .i64 a.2.2]
def actsC : List ActT → List Value
  | [] => []
  | a :: l => actC a ++ actsC l
theorem actsC_flat (l : List ActT) : l.flatMap (fun a => [Value.int .i64 a.1, .int .i64 a.2.1, .int .i64 a.2.2]) = actsC l := by
  induction l with
  | nil => rfl
  | cons a l ih => simp only [List.flatMap_cons, ih]; rfl
theorem actsC_app (a b : List ActT) : actsC (a ++ b) = actsC a ++ actsC b := by
  induction a with
  | nil => rfl
  | cons r a ih => simp only [List.cons_append, actsC, ih, List.append_assoc]
theorem actsC_len (l : List ActT) : (actsC l).length = l.length * 3 := by
  induction l with
  | nil => rfl
  | cons a l ih => simp only [actsC, List.length_append, ih, List.length_cons, actC]; simp; omega
theorem actsC_at : ∀ (l : List ActT) (k : Nat) (h : k < l.length), (actsC l)[k * 3]? = some (.int .i64 l[k].1) ∧ (actsC l)[k * 3 + 1]? = some (.int .i64 l[k].2.1) ∧ (actsC l)[k * 3 + 2]? = some (.int .i64 l[k].2.2)
  | [], k, h => by simp at h
  | a :: l, 0, h => ⟨rfl, rfl, rfl⟩
  | a :: l, k + 1, h => by
    have ih := actsC_at l k (by simpa using h)
    have e : (k + 1) * 3 = k * 3 + 3 := by omega
    rw [e]
    exact ih
theorem actsC_cells {B : World} {H : HProp} {b o : Nat} {l : List ActT} (h : Cells B H b o (actsC l)) {k : Nat} (hk : k < l.length) : Cells B H b (o + k * 3) [.int .i64 l[k].1, .int .i64 l[k].2.1, .int .i64 l[k].2.2] := fun w hw j v hj => by
  obtain ⟨c0, c1, c2⟩ := actsC_at l k hk
  have h2 : (actsC l)[k * 3 + j]? = some v := by
    match j, hj with
    | 0, hj => simp at hj; subst hj; exact c0
    | 1, hj => simp at hj; subst hj; exact c1
    | 2, hj => simp at hj; subst hj; exact c2
    | j + 3, hj => simp at hj
  rw [Nat.add_assoc]
  exact h w hw (k * 3 + j) v h2
section
variable {S : SemS} {b n : Nat} {k g d c : Int} {l : List Int}
theorem SOk.up (h : SOk S b) : SOk S (b + 1) := ⟨h.n, fun i l c hs => by have := h.r i l c hs; omega⟩
theorem SOk.set (h : SOk S b) (hl : l.length ≤ b + 1 ∧ 0 ≤ c ∧ c ≤ 1073741824) : SOk (S.set n (l, c)) (b + 1) := by
  refine ⟨by rw [List.length_set]; exact h.n, fun i l' c' hs => ?_⟩
  rw [List.getElem?_set] at hs
  split at hs
  · split at hs
    · cases hs; exact hl
    · cases hs
  · exact h.up.r i l' c' hs
theorem sok_acq (h : SOk S b) : SOk (acqS S k g).1 (b + 1) := by
  unfold acqS
  split
  · exact h.up
  split
  · exact h.up
  split
  · rename_i l c hs
    have := h.r _ _ _ hs
    split
    · unfold countS
      rw [modify_at hs]
      exact h.set ⟨by (try simp only); omega, by (try simp only); omega, by (try simp only); omega⟩
    · unfold pushS
      rw [modify_at hs]
      exact h.set ⟨by simp; omega, by (try simp only); omega, by (try simp only); omega⟩
  · exact h.up
theorem sok_rel (h : SOk S b) : SOk (relS S k).1 (b + 1) := by
  unfold relS
  split
  · exact h.up
  split
  · rename_i y l c hs
    have := h.r _ _ _ hs
    exact h.set ⟨by simp only [List.length_cons] at this; omega, by omega, by omega⟩
  · rename_i c hs
    have := h.r _ _ _ hs
    split
    · exact h.up
    · unfold countS
      rw [modify_at hs]
      exact h.set ⟨by simp, by (try simp only); omega, by (try simp only); omega⟩
  · exact h.up
theorem sok_leave (h : SOk S b) : SOk (leaveS S g) (b + 1) := by
  unfold leaveS
  split
  · exact h.up
  · rename_i i hw
    obtain ⟨l, c, hs, hg⟩ := where_in hw
    have := h.r _ _ _ hs
    rw [modify_at hs]
    have h2 : (l.erase g).length ≤ l.length := List.length_erase_le ..
    exact h.set ⟨by (try simp only); omega, by (try simp only); omega, by (try simp only); omega⟩
theorem sok_step (h : SOk S b) : SOk (stepS S d k g) (b + 1) := by
  unfold stepS
  split
  · exact sok_acq h
  split
  · exact sok_rel h
  split
  · exact sok_leave h
  · exact h.up
theorem sok_new {m : Nat} (hm : m ≤ 16) (hc : 0 ≤ c ∧ c ≤ 1073741824) : SOk (newS m c) 0 := by
  refine ⟨by simpa [newS] using hm, fun i l c' hs => ?_⟩
  have := List.mem_of_getElem? hs
  rw [newS, List.mem_replicate] at this
  cases this.2
  exact ⟨Nat.le_refl _, hc⟩
end
attribute [local irreducible] WP WPL QSeq QBlk QRet Does Cell Cells Rd Mine Ent Aside RV Yield SemAt
section
variable {B : World} {F H G : HProp} {n c g : Int} {s : Value} {acts : List ActT}
theorem plays_spec (hs : Rd B F 3 s acts.length (actsC acts)) : Does Try.prog B 4 [.int .i64 n, .int .i64 c, s, .int .i64 g] F fun r H' => H' = F ∧ r = .bool true := by
  unfold Rd at hs
  obtain ⟨ao, cap, rfl, hsl, hx, ha⟩ := hs
  refine fn_intro 117 Try.func4 rfl rfl rfl ?_
  by_cases hlen : acts.length ≤ 100
  · by_cases hok : 1 ≤ n ∧ n ≤ 16 ∧ 0 ≤ c ∧ c ≤ 1073741824
    · obtain ⟨h1, h2, h3, h4⟩ := hok
      obtain ⟨m, rfl⟩ := Int.eq_ofNat_of_zero_le (show 0 ≤ n by omega)
      refine walk ?_
      refine s_call rfl (sNew (n := (m : Int)) (c := c) h1 h2 ⟨h3, h4⟩) rfl ?_
      rintro _ _ ⟨p, rfl, rfl⟩
      rw [Int.toNat_natCast]
      refine walk ?_
      refine s_call rfl (new16 (m := m) (c := c) (by omega)) rfl ?_
      rintro v _ ⟨X0, rfl, hX0⟩
      obtain ⟨a0, k0, rfl⟩ := hX0.sl
      refine walk ?_
      refine wp_loopF (α := Nat × SemS × HProp × Value) [8, 11, 12, 13, 14, 15, 16, 59, 60, 61, 62, 63, 64, 65, 66, 67, 68, 69, 70, 71, 72, 73, 74, 75, 76, 77, 78, 79, 80, 81, 82, 83, 84, 85, 86, 87, 88, 89, 90, 91, 92, 93, 94, 95, 96, 97, 98, 99, 100, 101, 102, 103] (fun x => [(11, x.2.2.2), (12, .int .i64 x.1)]) (fun x => SemAt p x.2.1 + (x.2.2.1 + F)) (fun x => x.1 ≤ acts.length ∧ SOk x.2.1 x.1 ∧ RefS B (x.2.2.1 + F) x.2.2.2 x.2.1) (fun x => acts.length - x.1) (0, newS m c, X0, _) agreed ?_
        ⟨Nat.zero_le _, sok_new (by omega) ⟨h3, h4⟩, hX0.ent (Ent.drop_right _ _)⟩ ?_
      · show Ent (X0 + (SemAt p (newS m c) + F)) (SemAt p (newS m c) + (X0 + F))
        exact Ent.auto
      rintro ⟨i, S, X, r⟩ f ⟨hi, hS, hr⟩
      simp only at hi hS hr
      obtain ⟨ar, kr, rfl⟩ := hr.sl
      simp only [putAll]
      have hb : i ≤ 999999 := by omega
      have hlok := hS.lok (show i ≤ 1000000 by omega)
      by_cases hlt : i < acts.length
      · obtain ⟨bl, ol, rfl, hcl⟩ : ∃ b o, ao = some ⟨b, o, none⟩ ∧ Cells B F b o (actsC acts) := by
          rcases ha with h | h
          · rw [h] at hsl; simp at hsl; omega
          · exact h
        have hcells := actsC_cells hcl hlt
        have hS' := sok_step (d := acts[i].1) (k := acts[i].2.1) (g := acts[i].2.2) hS
        generalize acts[i].1 = d1 at *
        generalize acts[i].2.1 = k1 at *
        generalize acts[i].2.2 = g1 at *
        have hlok' := hS'.lok (show i + 1 ≤ 1000000 by omega)
        refine walk ?_
        refine s_call rfl (sCopy (p := p) (S := S) hlok) rfl ?_
        rintro _ _ ⟨p2, rfl, rfl⟩
        refine walk ?_
        refine s_call rfl (does_spec (p := p) (S := S) (d := d1) (k := k1) (g := g1) (G := X + F) hr (Ent.drop_left _ _) hS hb) rfl ?_
        rintro _ _ ⟨X2, u, rfl, rfl, hX2⟩
        obtain ⟨au, cu, rfl⟩ := hX2.sl
        refine walk ?_
        refine s_call rfl (is_spec (p := p) (S := stepS S d1 k1 g1) (G := X2 + (X + F)) hX2 Ent.auto hS' (by omega)) rfl ?_
        rintro _ _ ⟨e_, rfl⟩
        obtain rfl := e_.symm
        refine walk ?_
        refine walk ?_
        refine s_call rfl (is_spec (p := p2) (S := S) (G := X + F) hr Ent.auto hS hb) rfl ?_
        rintro _ _ ⟨e_, rfl⟩
        obtain rfl := e_.symm
        refine walk ?_
        refine walk ?_
        refine s_call rfl (sSame (p := p) (p2 := p2) (S := stepS S d1 k1 g1) (S' := S) hlok' hlok) rfl ?_
        rintro _ _ ⟨e_, rfl⟩
        obtain rfl := e_.symm
        refine walk ?_
        refine s_call rfl (same_spec (S := stepS S d1 k1 g1) (S' := S) (hX2.ent Ent.auto) (hr.ent Ent.auto) (by have := hS'.n; omega)) rfl ?_
        rintro _ _ ⟨e_, rfl⟩
        obtain rfl := e_.symm
        refine walk ?_
        exact ⟨(i + 1, stepS S d1 k1 g1, X2 + X, _), asided, agreed, Ent.auto, ⟨hlt, hS', hX2.ent (Ent.of_eq (HProp.add_assoc _ _ _))⟩, by (try simp only); omega⟩
      · refine walk ?_
        refine s_call rfl (is_spec (p := p) (S := S) (G := X + F) hr Ent.auto hS hb) rfl ?_
        rintro _ _ ⟨e_, rfl⟩
        obtain rfl := e_.symm
        refine walk ?_
        refine walk ?_
        refine s_call rfl (sCopy (p := p) (S := S) hlok) rfl ?_
        rintro _ _ ⟨p3, rfl, rfl⟩
        refine walk ?_
        refine s_call rfl (sSame (p := p) (p2 := p3) (S := S) (S' := S) hlok hlok) rfl ?_
        rintro _ _ ⟨e_, rfl⟩
        obtain rfl := e_.symm
        rw [decide_eq_true (show S = S from rfl)]
        refine walk ?_
        refine s_call rfl (works_spec) rfl ?_
        rintro _ _ ⟨e_, rfl⟩
        obtain rfl := e_.symm
        refine walk ?_
        (first | (apply retRD1 (G := F) (.inr rfl) rfl; (· first | (refine rv_tmp (v := .bool _) rfl) | exact rv_tmp rfl); (· exact Ent.auto)) | (apply retRD1 (G := F) (.inl rfl) rfl; (· first | (refine rv_tmp (v := .bool _) rfl) | exact rv_tmp rfl); (· exact Ent.auto)))
        exact ⟨rfl, rfl⟩
    · refine walk ?_
      refine s_call rfl (sNew_no (n := n) (c := c) (by omega)) rfl ?_
      rintro _ _ ⟨e_, rfl⟩
      obtain rfl := e_.symm
      by_cases q1 : n < 1
      · refine walk ?_
        refine s_call rfl (works_spec) rfl ?_
        rintro _ _ ⟨e_, rfl⟩
        obtain rfl := e_.symm
        refine walk ?_
        (first | refine ret1 (v := .bool _) (.inr rfl) rfl rfl ?_ | refine ret1  (.inr rfl) rfl rfl ?_ | refine ret1 (v := .bool _) (.inl rfl) rfl rfl ?_ | refine ret1  (.inl rfl) rfl rfl ?_)
        exact ⟨rfl, rfl⟩
      · by_cases q2 : 16 < n
        · refine walk ?_
          refine s_call rfl (works_spec) rfl ?_
          rintro _ _ ⟨e_, rfl⟩
          obtain rfl := e_.symm
          refine walk ?_
          (first | refine ret1 (v := .bool _) (.inr rfl) rfl rfl ?_ | refine ret1  (.inr rfl) rfl rfl ?_ | refine ret1 (v := .bool _) (.inl rfl) rfl rfl ?_ | refine ret1  (.inl rfl) rfl rfl ?_)
          exact ⟨rfl, rfl⟩
        · by_cases q3 : c < 0
          · refine walk ?_
            refine s_call rfl (works_spec) rfl ?_
            rintro _ _ ⟨e_, rfl⟩
            obtain rfl := e_.symm
            refine walk ?_
            (first | refine ret1 (v := .bool _) (.inr rfl) rfl rfl ?_ | refine ret1  (.inr rfl) rfl rfl ?_ | refine ret1 (v := .bool _) (.inl rfl) rfl rfl ?_ | refine ret1  (.inl rfl) rfl rfl ?_)
            exact ⟨rfl, rfl⟩
          · have q4 : 1073741824 < c := by omega
            refine walk ?_
            refine s_call rfl (works_spec) rfl ?_
            rintro _ _ ⟨e_, rfl⟩
            obtain rfl := e_.symm
            refine walk ?_
            (first | refine ret1 (v := .bool _) (.inr rfl) rfl rfl ?_ | refine ret1  (.inr rfl) rfl rfl ?_ | refine ret1 (v := .bool _) (.inl rfl) rfl rfl ?_ | refine ret1  (.inl rfl) rfl rfl ?_)
            exact ⟨rfl, rfl⟩
  · refine walk ?_
    refine s_call rfl (works_spec) rfl ?_
    rintro _ _ ⟨e_, rfl⟩
    obtain rfl := e_.symm
    refine walk ?_
    (first | refine ret1 (v := .bool _) (.inr rfl) rfl rfl ?_ | refine ret1  (.inr rfl) rfl rfl ?_ | refine ret1 (v := .bool _) (.inl rfl) rfl rfl ?_ | refine ret1  (.inl rfl) rfl rfl ?_)
    exact ⟨rfl, rfl⟩
end
end Go.Proofs.Ytgdeemneijpeeaa
