/- Rows of numbers, held against each other; a number brought below another one. The reference's system: how it lies; its small functions. The reference: what may be. The reference: what may be, kind by kind. No condition. -/
import Derived.Test.YtlhnmbajbhaaoaaGreatSL2
import Derived.Test.YtlhnmbajbhaaoaaGreatB1
import Derived.Test.YtlhnmbajbhaaoaaGreatSL3
import Derived.Test.YtlhnmbajbhaaoaaGreatB6
import Derived.Test.YtlhnmbajbhaaoaaGreatB7
import Derived.Test.YtlhnmbajbhaaoaaGreatSL4
namespace Go.Proofs.YtlhnmbajbhaaoaaGreat
open Go Go.SL
set_option linter.unusedSimpArgs false
set_option linter.unusedVariables false
set_option maxRecDepth 10000
set_option maxHeartbeats 1000000
attribute [local irreducible] WP WPL QSeq QBlk QRet Does Cell Cells Rd Mine Ent Aside RV Yield
theorem take_eq_of {α : Type} {xs ys : List α} {k : Nat} (hk : xs.length = k) (hl : xs.length = ys.length) (h : xs.take k = ys.take k) : xs = ys := by
  rw [List.take_of_length_le (by omega), List.take_of_length_le (by omega)] at h; exact h
theorem take_next {α : Type} {xs ys : List α} {k : Nat} (h1 : k < xs.length) (h2 : k < ys.length) (h : xs.take k = ys.take k) (hx : xs[k] = ys[k]) : xs.take (k + 1) = ys.take (k + 1) := by
  rw [List.take_succ_eq_append_getElem h1, List.take_succ_eq_append_getElem h2, h, hx]
section
variable {B : World} {F H G : HProp} {s u : Value} {xs ys : List Int}
theorem sameInts_spec (hs : Rd B H 1 s xs.length (zs xs)) (hu : Rd B H 1 u ys.length (zs ys)) :
    Does Tryz.prog B 40 [s, u] H (fun r H' => H' = H ∧ r = .bool (decide (xs = ys))) := by
  unfold Rd at hs hu
  obtain ⟨ao, cap, rfl, hl, hm, hc⟩ := hs
  obtain ⟨ao2, cap2, rfl, hl2, hm2, hc2⟩ := hu
  unfold maxLen at hm hm2
  refine fn_intro 26 Tryz.func40 rfl rfl rfl ?_
  by_cases hlen : xs.length = ys.length
  · refine walk ?_
    refine wp_loopR (α := Nat) [4, 5, 11, 12, 13, 14, 15, 16, 17, 18, 19, 20, 21, 22, 23, 24, 25] (fun k => [(5, .int .i64 k)]) (fun k => k ≤ xs.length ∧ xs.take k = ys.take k) (fun k => xs.length - k) 0 agreed ⟨Nat.zero_le _, rfl⟩ ?_
    rintro k g ⟨hk, hi⟩
    simp only [putAll]
    by_cases hlt : k < xs.length
    · obtain ⟨b, o, rfl, hcs⟩ := Rd.addr hl hc hlt
      have hlt2 : k < ys.length := by omega
      obtain ⟨b2, o2, rfl, hcs2⟩ := Rd.addr hl2 hc2 hlt2
      have hcell := hcs.cell (zs_get xs k hlt)
      have hcell2 := hcs2.cell (zs_get ys k hlt2)
      by_cases hx : xs[k] = ys[k]
      · refine walk ?_
        (refine wp_draw [] (.look 0 (.look 1 (.look 2 (.look 3 (.look 4 (.look 5 (.look 6 (.look 7 (.look 8 .nil))))))))) (by kernel_rfl) ?_; refine dwP ?_; refine dwP ?_; refine dwP ?_; refine dwL ?_; refine dwP ?_; refine dwP ?_; refine dwP ?_; refine dwL ?_; refine dwP ?_; refine dw_nil ?_)
        refine walk ?_
        exact ⟨k + 1, asided, agreed, Ent.refl _, ⟨hlt, take_next hlt hlt2 hi hx⟩, by omega⟩
      · have hne : ¬ xs = ys := by rintro rfl; exact hx rfl
        refine walk ?_
        (refine wp_draw [] (.look 0 (.look 1 (.look 2 (.look 3 (.look 4 (.look 5 (.look 6 (.look 7 (.look 8 .nil))))))))) (by kernel_rfl) ?_; refine dwP ?_; refine dwP ?_; refine dwP ?_; refine dwL ?_; refine dwP ?_; refine dwP ?_; refine dwP ?_; refine dwL ?_; refine dwP ?_; refine dw_nil ?_)
        refine walk ?_
        exact ret1 (v := .bool _) (.inr rfl) rfl rfl ⟨rfl, by simp [hne]⟩
    · have heq := take_eq_of (show xs.length = k by omega) hlen hi
      refine walk ?_
      exact ret1 (v := .bool _) (.inr rfl) rfl rfl ⟨rfl, by simp [heq]⟩
  · have hne : ¬ xs = ys := by rintro rfl; exact hlen rfl
    refine walk ?_
    exact ret1 (v := .bool _) (.inr rfl) rfl rfl ⟨rfl, by simp [hne]⟩
end
end Go.Proofs.YtlhnmbajbhaaoaaGreat
namespace Go.Proofs.YtlhnmbajbhaaoaaGreat
open Go Go.SL
set_option linter.unusedSimpArgs false
set_option linter.unusedVariables false
set_option maxRecDepth 10000
set_option maxHeartbeats 2000000
/-- Where a reference's system lies. -/
structure RA where
  t : RefA
  oc : Option Addr
  kc : Nat
  ow : Option Addr
  kw : Nat
  om : Option Addr
  km : Nat
  op : Option Addr
  kp : Nat
  ws : List Value
abbrev rfC (J : Ide) (a : RA) : List Value := [.int .i64 J.c.n, .int .i64 J.c.q, .int .i64 J.c.g, .int .i64 J.c.m, .int .i64 J.c.t, .int .i64 J.c.s, .slice a.t.o1 J.tab.all.length a.t.k1, .slice a.t.o2 J.tab.all.length a.t.k2, .slice a.t.o3 J.tab.row.length a.t.k3,
  .slice a.oc 4 a.kc, .slice a.ow 4 a.kw, .slice a.om J.ms.length a.km, .slice a.op J.ps.length a.kp, .int .i64 J.many]
abbrev rfV (J : Ide) (a : RA) : Value := .agg (rfC J a).toArray
structure RI (B : World) (G : HProp) (J : Ide) (a : RA) : Prop where
  tab : RefC B G a.t J.tab
  cnt : Rd B G 1 (.slice a.oc 4 a.kc) 4 (zs (J.sem.map (·.2)))
  wts : Rd B G 1 (.slice a.ow 4 a.kw) 4 a.ws
  wrd : ∀ (i : Nat) (l : List Int) (c : Int), J.sem[i]? = some (l, c) → ∃ o k, a.ws[i]? = some (.slice o l.length k) ∧ Rd B G 1 (.slice o l.length k) l.length (zs l)
  msr : Rd B G 4 (.slice a.om J.ms.length a.km) J.ms.length (mcs J.ms)
  psr : Rd B G 1 (.slice a.op J.ps.length a.kp) J.ps.length (zs J.ps)
section
variable {B : World} {H F G : HProp} {J : Ide} {a : RA} {k : Nat}
theorem RI.ent (h : RI B G J a) (e : Ent H G) : RI B H J a := ⟨h.tab.ent e, h.cnt.ent e, h.wts.ent e, fun i l c hi => let ⟨o, k, h1, h2⟩ := h.wrd i l c hi; ⟨o, k, h1, h2.ent e⟩, h.msr.ent e, h.psr.ent e⟩
theorem rd_one {ao : Option Addr} {n cap : Nat} {cs : List Value} {v : Value} (h : Rd B G 1 (.slice ao n cap) n cs) (hk : cs[k]? = some v) : ∃ b o, ao = some ⟨b, o, none⟩ ∧ Cell B G b (o + k) v := by
  unfold Rd at h
  obtain ⟨ao', cap', hv, hl, _, hc⟩ := h
  cases hv
  rcases hc with e | ⟨b, o, e, hc⟩
  · rw [e] at hk; simp at hk
  · exact ⟨b, o, e, hc.cell hk⟩
theorem RI.psA (h : RI B G J a) (hk : k < J.ps.length) : ∃ b o, a.op = some ⟨b, o, none⟩ ∧ Cell B G b (o + k) (.int .i64 J.ps[k]) := rd_one h.psr (zs_get _ k hk)
theorem RI.msA (h : RI B G J a) (hk : k < J.ms.length) : ∃ b o, a.om = some ⟨b, o, none⟩ ∧ Cells B G b (o + k * 4) (mcC J.ms[k]) := by
  have h2 := h.msr
  unfold Rd at h2
  obtain ⟨ao', cap', hv, hl, _, hc⟩ := h2
  cases hv
  rcases hc with e | ⟨b, o, e, hc⟩
  · rw [e] at hl; simp at hl; omega
  · refine ⟨b, o, e, fun w hw j v hj => ?_⟩
    have hj4 : j < 4 := (List.getElem?_eq_some_iff.1 hj).1
    have h3 := hc.cell (j := k * 4 + j) (v := v) (by have := mcs_at hk hj4 []; rw [List.append_nil] at this; rw [this]; exact hj)
    rw [← Nat.add_assoc] at h3
    exact h3 w hw
theorem RI.cnA (h : RI B G J a) {l : List Int} {c : Int} (hk : J.sem[k]? = some (l, c)) : ∃ b o, a.oc = some ⟨b, o, none⟩ ∧ Cell B G b (o + k) (.int .i64 c) := rd_one h.cnt (by rw [show zs (J.sem.map (·.2)) = (J.sem.map (·.2)).map (.int .i64) from rfl, List.getElem?_map, List.getElem?_map, hk]; rfl)
theorem RI.wtA (h : RI B G J a) {l : List Int} {c : Int} (hk : J.sem[k]? = some (l, c)) : ∃ b o o2 k2, a.ow = some ⟨b, o, none⟩ ∧ Cell B G b (o + k) (.slice o2 l.length k2) ∧ Rd B G 1 (.slice o2 l.length k2) l.length (zs l) := by
  obtain ⟨o2, k2, h1, h2⟩ := h.wrd k l c hk
  obtain ⟨b, o, e, hc⟩ := rd_one h.wts h1
  exact ⟨b, o, o2, k2, e, hc, h2⟩
theorem RI.stA (h : RI B G J a) (hk : k < J.tab.all.length) : ∃ b o, a.t.o1 = some ⟨b, o, none⟩ ∧ Cell B G b (o + k) (.int .i64 J.tab.all[k].1) := by
  obtain ⟨s1, s2, s3, e, h1, h2, h3⟩ := h.tab
  have e' : s1 = .slice a.t.o1 J.tab.all.length a.t.k1 := by simp at e; exact e.1.symm
  rw [e'] at h1
  exact rd_one h1 (by simp [zs, Tab.st, hk])
theorem RI.rwR (h : RI B G J a) : Rd B G 1 (.slice a.t.o3 J.tab.row.length a.t.k3) J.tab.row.length (zs J.tab.row) := by
  obtain ⟨s1, s2, s3, e, h1, h2, h3⟩ := h.tab
  have e' : s3 = .slice a.t.o3 J.tab.row.length a.t.k3 := by simp at e; exact e.2.2.symm
  rw [e'] at h3
  exact h3
end
attribute [local irreducible] WP WPL QSeq QBlk QRet Does Cell Cells Rd Mine Ent Aside RV Yield TabAt SemAt IdeAt
section
variable {B : World} {H F G : HProp} {J : Ide} {a : RA} {n : Nt} {p s v bd : Int} {ch : UInt8} {l : List UInt8} {nb : Bool} {kind : Int}
theorem rField : Does Tryz.prog B 107 [.bool nb, .int .i64 v, .int .i64 bd] H fun r H' => H' = H ∧ r = .bool (fieldB nb v bd) := by
  cases nb with
  | true =>
    by_cases h0 : 0 ≤ v
    · by_cases h1 : v < bd
      · rw [show fieldB true v bd = true by simp [fieldB, h0, h1]]
        refine fn_intro 17 Tryz.func107 rfl rfl rfl ?_
        refine walk ?_
        (first | refine ret1 (v := .bool _) (.inr rfl) rfl rfl ?_ | refine ret1  (.inr rfl) rfl rfl ?_ | refine ret1 (v := .bool _) (.inl rfl) rfl rfl ?_ | refine ret1  (.inl rfl) rfl rfl ?_)
        exact ⟨rfl, rfl⟩
      · rw [show fieldB true v bd = false by simp [fieldB, h1]]
        refine fn_intro 17 Tryz.func107 rfl rfl rfl ?_
        refine walk ?_
        (first | refine ret1 (v := .bool _) (.inr rfl) rfl rfl ?_ | refine ret1  (.inr rfl) rfl rfl ?_ | refine ret1 (v := .bool _) (.inl rfl) rfl rfl ?_ | refine ret1  (.inl rfl) rfl rfl ?_)
        exact ⟨rfl, rfl⟩
    · rw [show fieldB true v bd = false by simp [fieldB, h0]]
      refine fn_intro 17 Tryz.func107 rfl rfl rfl ?_
      refine walk ?_
      (first | refine ret1 (v := .bool _) (.inr rfl) rfl rfl ?_ | refine ret1  (.inr rfl) rfl rfl ?_ | refine ret1 (v := .bool _) (.inl rfl) rfl rfl ?_ | refine ret1  (.inl rfl) rfl rfl ?_)
      exact ⟨rfl, rfl⟩
  | false =>
    by_cases h0 : v = -1
    · rw [show fieldB false v bd = true by simp [fieldB, h0]]
      refine fn_intro 17 Tryz.func107 rfl rfl rfl ?_
      refine walk ?_
      (first | refine ret1 (v := .bool _) (.inr rfl) rfl rfl ?_ | refine ret1  (.inr rfl) rfl rfl ?_ | refine ret1 (v := .bool _) (.inl rfl) rfl rfl ?_ | refine ret1  (.inl rfl) rfl rfl ?_)
      exact ⟨rfl, rfl⟩
    · rw [show fieldB false v bd = false by simp [fieldB, h0]]
      refine fn_intro 17 Tryz.func107 rfl rfl rfl ?_
      refine walk ?_
      (first | refine ret1 (v := .bool _) (.inr rfl) rfl rfl ?_ | refine ret1  (.inr rfl) rfl rfl ?_ | refine ret1 (v := .bool _) (.inl rfl) rfl rfl ?_ | refine ret1  (.inl rfl) rfl rfl ?_)
      exact ⟨rfl, rfl⟩
theorem rHasC (hl : l.length ≤ 1000000) : Does Tryz.prog B 108 [str l, .int .u8 (ch.toNat : Int)] H fun r H' => H' = H ∧ r = .bool (decide (ch ∈ l)) := by
  refine fn_intro 17 Tryz.func108 rfl rfl rfl ?_
  refine walk ?_
  refine wp_loopF (α := Nat) [4, 5, 6, 7, 8, 9, 10, 11, 12, 13, 14, 15, 16] (fun k => [(5, .int .i64 k)]) (fun _ => H) (fun k => k ≤ l.length ∧ ch ∉ l.take k) (fun k => l.length - k) 0 agreed (Ent.refl _) ⟨Nat.zero_le _, by simp⟩ ?_
  rintro k g ⟨hk, hi⟩
  simp only [putAll]
  by_cases hlt : k < l.length
  · by_cases hx : l[k] = ch
    · have hx' : (l[k].toNat : Int) = (ch.toNat : Int) := by rw [hx]
      refine walk ?_
      refine s_slen rfl rfl ?_
      refine walk ?_
      refine s_sindex (j := k) rfl rfl rfl hlt rfl ?_
      refine walk ?_
      (first | refine ret1 (v := .bool _) (.inr rfl) rfl rfl ?_ | refine ret1  (.inr rfl) rfl rfl ?_ | refine ret1 (v := .bool _) (.inl rfl) rfl rfl ?_ | refine ret1  (.inl rfl) rfl rfl ?_)
      exact ⟨rfl, by rw [decide_eq_true (show ch ∈ l by rw [← hx]; exact List.getElem_mem _)]⟩
    · have hx' : (l[k].toNat : Int) ≠ (ch.toNat : Int) := fun h => hx (UInt8.toNat_inj.1 (by omega))
      refine walk ?_
      refine s_slen rfl rfl ?_
      refine walk ?_
      refine s_sindex (j := k) rfl rfl rfl hlt rfl ?_
      refine walk ?_
      exact ⟨k + 1, asided, agreed, Ent.refl _, ⟨hlt, by rw [List.take_succ_eq_append_getElem hlt, List.mem_append, List.mem_singleton]; exact fun h => h.elim hi (fun e => hx e.symm)⟩, by omega⟩
  · rw [List.take_of_length_le (by omega)] at hi
    refine walk ?_
    refine s_slen rfl rfl ?_
    refine walk ?_
    (first | refine ret1 (v := .bool _) (.inr rfl) rfl rfl ?_ | refine ret1  (.inr rfl) rfl rfl ?_ | refine ret1 (v := .bool _) (.inl rfl) rfl rfl ?_ | refine ret1  (.inl rfl) rfl rfl ?_)
    exact ⟨rfl, by rw [decide_eq_false hi]⟩
theorem rFields : Does Tryz.prog B 106 [rfV J a, .int .i64 kind] H fun r H' => H' = H ∧ r = .tuple #[str (fK kind), .int .i64 (xK J.c kind)] := by
  refine Does.frame0 ?_
  by_cases e1 : kind = 1
  · subst e1
    refine fn_intro 32 Tryz.func106 rfl rfl rfl ?_
    refine walk ?_
    refine s_box (cs := rfC J a) rfl rfl rfl ?_
    intro b
    refine walk ?_
    (refine wp_draw [] (.look 0 (.look 1 (.look 2 (.look 3 (.look 4 .nil))))) (by kernel_rfl) ?_; refine dwP ?_; refine dwP ?_; refine dwL ?_; refine dwP ?_; refine dwP ?_; refine dw_nil ?_)
    refine walk ?_
    (first | (apply retRD2 (G := H) (.inr rfl) rfl; (· first | (refine rv_tmp (v := .string _) rfl) | exact rv_tmp rfl); (· first | (refine rv_tmp (v := .int _ _) rfl) | exact rv_tmp rfl); (· exact Ent.auto)) | (apply retRD2 (G := H) (.inl rfl) rfl; (· first | (refine rv_tmp (v := .string _) rfl) | exact rv_tmp rfl); (· first | (refine rv_tmp (v := .int _ _) rfl) | exact rv_tmp rfl); (· exact Ent.auto)))
    exact ⟨Ent.refl _, rfl⟩
  by_cases e2 : kind = 2
  · subst e2
    refine fn_intro 32 Tryz.func106 rfl rfl rfl ?_
    refine walk ?_
    refine s_box (cs := rfC J a) rfl rfl rfl ?_
    intro b
    refine walk ?_
    (first | (apply retRD2 (G := H) (.inr rfl) rfl; (· first | (refine rv_tmp (v := .string _) rfl) | exact rv_tmp rfl); (· first | (refine rv_tmp (v := .int _ _) rfl) | exact rv_tmp rfl); (· exact Ent.auto)) | (apply retRD2 (G := H) (.inl rfl) rfl; (· first | (refine rv_tmp (v := .string _) rfl) | exact rv_tmp rfl); (· first | (refine rv_tmp (v := .int _ _) rfl) | exact rv_tmp rfl); (· exact Ent.auto)))
    exact ⟨Ent.refl _, rfl⟩
  by_cases e11 : kind = 11
  · subst e11
    refine fn_intro 32 Tryz.func106 rfl rfl rfl ?_
    refine walk ?_
    refine s_box (cs := rfC J a) rfl rfl rfl ?_
    intro b
    refine walk ?_
    (first | (apply retRD2 (G := H) (.inr rfl) rfl; (· first | (refine rv_tmp (v := .string _) rfl) | exact rv_tmp rfl); (· first | (refine rv_tmp (v := .int _ _) rfl) | exact rv_tmp rfl); (· exact Ent.auto)) | (apply retRD2 (G := H) (.inl rfl) rfl; (· first | (refine rv_tmp (v := .string _) rfl) | exact rv_tmp rfl); (· first | (refine rv_tmp (v := .int _ _) rfl) | exact rv_tmp rfl); (· exact Ent.auto)))
    exact ⟨Ent.refl _, rfl⟩
  by_cases e3 : kind = 3
  · subst e3
    refine fn_intro 32 Tryz.func106 rfl rfl rfl ?_
    refine walk ?_
    refine s_box (cs := rfC J a) rfl rfl rfl ?_
    intro b
    refine walk ?_
    (first | (apply retRD2 (G := H) (.inr rfl) rfl; (· first | (refine rv_tmp (v := .string _) rfl) | exact rv_tmp rfl); (· first | (refine rv_tmp (v := .int _ _) rfl) | exact rv_tmp rfl); (· exact Ent.auto)) | (apply retRD2 (G := H) (.inl rfl) rfl; (· first | (refine rv_tmp (v := .string _) rfl) | exact rv_tmp rfl); (· first | (refine rv_tmp (v := .int _ _) rfl) | exact rv_tmp rfl); (· exact Ent.auto)))
    exact ⟨Ent.refl _, rfl⟩
  by_cases e4 : kind = 4
  · subst e4
    refine fn_intro 32 Tryz.func106 rfl rfl rfl ?_
    refine walk ?_
    refine s_box (cs := rfC J a) rfl rfl rfl ?_
    intro b
    refine walk ?_
    (first | (apply retRD2 (G := H) (.inr rfl) rfl; (· first | (refine rv_tmp (v := .string _) rfl) | exact rv_tmp rfl); (· first | (refine rv_tmp (v := .int _ _) rfl) | exact rv_tmp rfl); (· exact Ent.auto)) | (apply retRD2 (G := H) (.inl rfl) rfl; (· first | (refine rv_tmp (v := .string _) rfl) | exact rv_tmp rfl); (· first | (refine rv_tmp (v := .int _ _) rfl) | exact rv_tmp rfl); (· exact Ent.auto)))
    exact ⟨Ent.refl _, rfl⟩
  by_cases e9 : kind = 9
  · subst e9
    refine fn_intro 32 Tryz.func106 rfl rfl rfl ?_
    refine walk ?_
    refine s_box (cs := rfC J a) rfl rfl rfl ?_
    intro b
    refine walk ?_
    (first | (apply retRD2 (G := H) (.inr rfl) rfl; (· first | (refine rv_tmp (v := .string _) rfl) | exact rv_tmp rfl); (· first | (refine rv_tmp (v := .int _ _) rfl) | exact rv_tmp rfl); (· exact Ent.auto)) | (apply retRD2 (G := H) (.inl rfl) rfl; (· first | (refine rv_tmp (v := .string _) rfl) | exact rv_tmp rfl); (· first | (refine rv_tmp (v := .int _ _) rfl) | exact rv_tmp rfl); (· exact Ent.auto)))
    exact ⟨Ent.refl _, rfl⟩
  by_cases e10 : kind = 10
  · subst e10
    refine fn_intro 32 Tryz.func106 rfl rfl rfl ?_
    refine walk ?_
    refine s_box (cs := rfC J a) rfl rfl rfl ?_
    intro b
    refine walk ?_
    (first | (apply retRD2 (G := H) (.inr rfl) rfl; (· first | (refine rv_tmp (v := .string _) rfl) | exact rv_tmp rfl); (· first | (refine rv_tmp (v := .int _ _) rfl) | exact rv_tmp rfl); (· exact Ent.auto)) | (apply retRD2 (G := H) (.inl rfl) rfl; (· first | (refine rv_tmp (v := .string _) rfl) | exact rv_tmp rfl); (· first | (refine rv_tmp (v := .int _ _) rfl) | exact rv_tmp rfl); (· exact Ent.auto)))
    exact ⟨Ent.refl _, rfl⟩
  by_cases e5 : kind = 5
  · subst e5
    refine fn_intro 32 Tryz.func106 rfl rfl rfl ?_
    refine walk ?_
    refine s_box (cs := rfC J a) rfl rfl rfl ?_
    intro b
    refine walk ?_
    (first | (apply retRD2 (G := H) (.inr rfl) rfl; (· first | (refine rv_tmp (v := .string _) rfl) | exact rv_tmp rfl); (· first | (refine rv_tmp (v := .int _ _) rfl) | exact rv_tmp rfl); (· exact Ent.auto)) | (apply retRD2 (G := H) (.inl rfl) rfl; (· first | (refine rv_tmp (v := .string _) rfl) | exact rv_tmp rfl); (· first | (refine rv_tmp (v := .int _ _) rfl) | exact rv_tmp rfl); (· exact Ent.auto)))
    exact ⟨Ent.refl _, rfl⟩
  by_cases e6 : kind = 6
  · subst e6
    refine fn_intro 32 Tryz.func106 rfl rfl rfl ?_
    refine walk ?_
    refine s_box (cs := rfC J a) rfl rfl rfl ?_
    intro b
    refine walk ?_
    (first | (apply retRD2 (G := H) (.inr rfl) rfl; (· first | (refine rv_tmp (v := .string _) rfl) | exact rv_tmp rfl); (· first | (refine rv_tmp (v := .int _ _) rfl) | exact rv_tmp rfl); (· exact Ent.auto)) | (apply retRD2 (G := H) (.inl rfl) rfl; (· first | (refine rv_tmp (v := .string _) rfl) | exact rv_tmp rfl); (· first | (refine rv_tmp (v := .int _ _) rfl) | exact rv_tmp rfl); (· exact Ent.auto)))
    exact ⟨Ent.refl _, rfl⟩
  by_cases e7 : kind = 7
  · subst e7
    refine fn_intro 32 Tryz.func106 rfl rfl rfl ?_
    refine walk ?_
    refine s_box (cs := rfC J a) rfl rfl rfl ?_
    intro b
    refine walk ?_
    (first | (apply retRD2 (G := H) (.inr rfl) rfl; (· first | (refine rv_tmp (v := .string _) rfl) | exact rv_tmp rfl); (· first | (refine rv_tmp (v := .int _ _) rfl) | exact rv_tmp rfl); (· exact Ent.auto)) | (apply retRD2 (G := H) (.inl rfl) rfl; (· first | (refine rv_tmp (v := .string _) rfl) | exact rv_tmp rfl); (· first | (refine rv_tmp (v := .int _ _) rfl) | exact rv_tmp rfl); (· exact Ent.auto)))
    exact ⟨Ent.refl _, rfl⟩
  by_cases e8 : kind = 8
  · subst e8
    refine fn_intro 32 Tryz.func106 rfl rfl rfl ?_
    refine walk ?_
    refine s_box (cs := rfC J a) rfl rfl rfl ?_
    intro b
    refine walk ?_
    (first | (apply retRD2 (G := H) (.inr rfl) rfl; (· first | (refine rv_tmp (v := .string _) rfl) | exact rv_tmp rfl); (· first | (refine rv_tmp (v := .int _ _) rfl) | exact rv_tmp rfl); (· exact Ent.auto)) | (apply retRD2 (G := H) (.inl rfl) rfl; (· first | (refine rv_tmp (v := .string _) rfl) | exact rv_tmp rfl); (· first | (refine rv_tmp (v := .int _ _) rfl) | exact rv_tmp rfl); (· exact Ent.auto)))
    exact ⟨Ent.refl _, rfl⟩
  by_cases e12 : kind = 12
  · subst e12
    refine fn_intro 32 Tryz.func106 rfl rfl rfl ?_
    refine walk ?_
    refine s_box (cs := rfC J a) rfl rfl rfl ?_
    intro b
    refine walk ?_
    (first | (apply retRD2 (G := H) (.inr rfl) rfl; (· first | (refine rv_tmp (v := .string _) rfl) | exact rv_tmp rfl); (· first | (refine rv_tmp (v := .int _ _) rfl) | exact rv_tmp rfl); (· exact Ent.auto)) | (apply retRD2 (G := H) (.inl rfl) rfl; (· first | (refine rv_tmp (v := .string _) rfl) | exact rv_tmp rfl); (· first | (refine rv_tmp (v := .int _ _) rfl) | exact rv_tmp rfl); (· exact Ent.auto)))
    exact ⟨Ent.refl _, rfl⟩
  by_cases e13 : kind = 13
  · subst e13
    refine fn_intro 32 Tryz.func106 rfl rfl rfl ?_
    refine walk ?_
    refine s_box (cs := rfC J a) rfl rfl rfl ?_
    intro b
    refine walk ?_
    (first | (apply retRD2 (G := H) (.inr rfl) rfl; (· first | (refine rv_tmp (v := .string _) rfl) | exact rv_tmp rfl); (· first | (refine rv_tmp (v := .int _ _) rfl) | exact rv_tmp rfl); (· exact Ent.auto)) | (apply retRD2 (G := H) (.inl rfl) rfl; (· first | (refine rv_tmp (v := .string _) rfl) | exact rv_tmp rfl); (· first | (refine rv_tmp (v := .int _ _) rfl) | exact rv_tmp rfl); (· exact Ent.auto)))
    exact ⟨Ent.refl _, rfl⟩
  by_cases e14 : kind = 14
  · subst e14
    refine fn_intro 32 Tryz.func106 rfl rfl rfl ?_
    refine walk ?_
    refine s_box (cs := rfC J a) rfl rfl rfl ?_
    intro b
    refine walk ?_
    (first | (apply retRD2 (G := H) (.inr rfl) rfl; (· first | (refine rv_tmp (v := .string _) rfl) | exact rv_tmp rfl); (· first | (refine rv_tmp (v := .int _ _) rfl) | exact rv_tmp rfl); (· exact Ent.auto)) | (apply retRD2 (G := H) (.inl rfl) rfl; (· first | (refine rv_tmp (v := .string _) rfl) | exact rv_tmp rfl); (· first | (refine rv_tmp (v := .int _ _) rfl) | exact rv_tmp rfl); (· exact Ent.auto)))
    exact ⟨Ent.refl _, rfl⟩
  have ef : fK kind = [112] := by unfold fK; simp [e1, e2, e11, e3, e4, e9, e10, e5, e6, e7, e8, e12, e13, e14]
  have ex : xK J.c kind = 0 := by unfold xK; simp [e1, e2, e11, e3, e4, e9, e10, e5, e6, e7, e8, e12, e13, e14]
  rw [ef, ex]
  refine fn_intro 32 Tryz.func106 rfl rfl rfl ?_
  refine walk ?_
  refine s_box (cs := rfC J a) rfl rfl rfl ?_
  intro b
  refine walk ?_
  (first | (apply retRD2 (G := H) (.inr rfl) rfl; (· first | (refine rv_tmp (v := .string _) rfl) | exact rv_tmp rfl); (· first | (refine rv_tmp (v := .int _ _) rfl) | exact rv_tmp rfl); (· exact Ent.auto)) | (apply retRD2 (G := H) (.inl rfl) rfl; (· first | (refine rv_tmp (v := .string _) rfl) | exact rv_tmp rfl); (· first | (refine rv_tmp (v := .int _ _) rfl) | exact rv_tmp rfl); (· exact Ent.auto)))
  exact ⟨Ent.refl _, rfl⟩
theorem rRight : Does Tryz.prog B 50 [rfV J a, noteV n] H fun r H' => H' = H ∧ r = .bool (decide (1 ≤ n.kind ∧ n.kind ≤ 16) && rightB J.c n) := by
  refine Does.frame0 ?_
  have hfl := fK_len n.kind
  by_cases h1 : 1 ≤ n.kind
  · by_cases h2 : n.kind ≤ 16
    · rw [decide_eq_true (show 1 ≤ n.kind ∧ n.kind ≤ 16 from ⟨h1, h2⟩), Bool.true_and]
      unfold rightB
      cases hA : fieldB (decide ((103 : UInt8) ∈ fK n.kind)) n.g J.c.g with
      | false =>
        rw [Bool.false_and]
        refine fn_intro 58 Tryz.func50 rfl rfl rfl ?_
        refine walk ?_
        refine s_box (cs := rfC J a) rfl rfl rfl ?_
        intro b
        refine walk ?_
        refine s_box (cs := nv n) rfl rfl rfl ?_
        intro b3
        refine walk ?_
        refine s_call rfl (rFields (J := J) (a := a) (kind := n.kind)) rfl ?_
        rintro _ _ ⟨e_, rfl⟩
        obtain rfl := e_.symm
        refine walk ?_
        (refine wp_draw [1, 7, 10, 16, 20, 26, 30, 34] (.look 0 (.look 2 (.look 3 (.look 4 (.look 5 (.look 6 (.act 1 (.act 7 (.look 8 (.look 9 (.look 11 (.look 12 (.look 13 (.look 14 (.look 15 (.act 10 (.act 16 (.look 17 (.look 18 (.look 19 (.look 21 (.look 22 (.look 23 (.look 24 (.look 25 (.act 20 (.act 26 (.look 27 (.look 28 (.look 29 (.look 31 (.look 32 (.look 33 (.act 30 (.act 34 (.look 35 (.look 36 .nil)) .stop) .stop))))))) .stop) .stop))))))))) .stop) .stop)))))))) .stop) .stop))))))) (by kernel_rfl) ?_; refine dwP ?_; refine dwP ?_; refine dwL ?_; refine dwP ?_; refine dwP ?_; refine dwL ?_; skip)
        refine dw_do rfl rfl ?_ dw_stop
        refine s_call rfl (rHasC (l := fK n.kind) (ch := 103) (by omega)) rfl ?_
        rintro _ _ ⟨e_, rfl⟩
        obtain rfl := e_.symm
        refine wpl_nil (qone ⟨(by (refine st_again ?_ ?_; (· exact looked)); (refine st_again ?_ ?_; (· exact looked)); exact st_nil), ?_⟩)
        (skip)
        refine dw_do rfl rfl ?_ dw_stop
        refine s_call rfl (rField (nb := decide ((103 : UInt8) ∈ fK n.kind)) (v := n.g) (bd := J.c.g)) rfl ?_
        rintro _ _ ⟨e_, rfl⟩
        obtain rfl := e_.symm
        rw [hA]
        refine wpl_nil (qone ⟨(by refine st_past (by kernel_rfl) ?_; refine st_past (by kernel_rfl) ?_; exact st_nil), ?_⟩)
        (refine dwP ?_; refine dwP ?_; refine dwP ?_; refine dwL ?_; refine dwP ?_; refine dwP ?_; refine dwL ?_; skip)
        refine dw_do rfl rfl ?_ dw_stop
        (first | refine step_unwanted rfl rfl rfl rfl ?_ | refine step_unwantedU rfl rfl rfl ?_ | refine step_unwanted0 rfl rfl rfl ?_ | refine step_unwantedU0 rfl rfl ?_)
        refine wpl_nil (qone ⟨(by (refine st_again ?_ ?_; (· exact looked)); (refine st_again ?_ ?_; (· exact looked)); refine st_past (by kernel_rfl) ?_; refine st_past (by kernel_rfl) ?_; exact st_nil), ?_⟩)
        (skip)
        refine dw_do rfl rfl ?_ dw_stop
        (first | refine step_unwanted rfl rfl rfl rfl ?_ | refine step_unwantedU rfl rfl rfl ?_ | refine step_unwanted0 rfl rfl rfl ?_ | refine step_unwantedU0 rfl rfl ?_)
        refine wpl_nil (qone ⟨(by refine st_past (by kernel_rfl) ?_; refine st_past (by kernel_rfl) ?_; refine st_past (by kernel_rfl) ?_; refine st_past (by kernel_rfl) ?_; exact st_nil), ?_⟩)
        (refine dwP ?_; refine dwP ?_; refine dwP ?_; refine dwP ?_; refine dwL ?_; refine dwP ?_; refine dwP ?_; refine dwL ?_; skip)
        refine dw_do rfl rfl ?_ dw_stop
        (first | refine step_unwanted rfl rfl rfl rfl ?_ | refine step_unwantedU rfl rfl rfl ?_ | refine step_unwanted0 rfl rfl rfl ?_ | refine step_unwantedU0 rfl rfl ?_)
        refine wpl_nil (qone ⟨(by (refine st_again ?_ ?_; (· exact looked)); (refine st_again ?_ ?_; (· exact looked)); refine st_past (by kernel_rfl) ?_; refine st_past (by kernel_rfl) ?_; refine st_past (by kernel_rfl) ?_; refine st_past (by kernel_rfl) ?_; exact st_nil), ?_⟩)
        (skip)
        refine dw_do rfl rfl ?_ dw_stop
        (first | refine step_unwanted rfl rfl rfl rfl ?_ | refine step_unwantedU rfl rfl rfl ?_ | refine step_unwanted0 rfl rfl rfl ?_ | refine step_unwantedU0 rfl rfl ?_)
        refine wpl_nil (qone ⟨(by refine st_past (by kernel_rfl) ?_; refine st_past (by kernel_rfl) ?_; refine st_past (by kernel_rfl) ?_; refine st_past (by kernel_rfl) ?_; refine st_past (by kernel_rfl) ?_; refine st_past (by kernel_rfl) ?_; exact st_nil), ?_⟩)
        (refine dwP ?_; refine dwP ?_; refine dwP ?_; refine dwP ?_; refine dwL ?_; refine dwP ?_; skip)
        refine dw_do rfl rfl ?_ dw_stop
        (first | refine step_unwanted rfl rfl rfl rfl ?_ | refine step_unwantedU rfl rfl rfl ?_ | refine step_unwanted0 rfl rfl rfl ?_ | refine step_unwantedU0 rfl rfl ?_)
        refine wpl_nil (qone ⟨(by (refine st_again ?_ ?_; (· exact looked)); refine st_past (by kernel_rfl) ?_; refine st_past (by kernel_rfl) ?_; refine st_past (by kernel_rfl) ?_; refine st_past (by kernel_rfl) ?_; refine st_past (by kernel_rfl) ?_; refine st_past (by kernel_rfl) ?_; exact st_nil), ?_⟩)
        (skip)
        refine dw_do rfl rfl ?_ dw_stop
        (first | refine step_unwanted rfl rfl rfl rfl ?_ | refine step_unwantedU rfl rfl rfl ?_ | refine step_unwanted0 rfl rfl rfl ?_ | refine step_unwantedU0 rfl rfl ?_)
        refine wpl_nil (qone ⟨(by refine st_past (by kernel_rfl) ?_; refine st_past (by kernel_rfl) ?_; refine st_past (by kernel_rfl) ?_; refine st_past (by kernel_rfl) ?_; refine st_past (by kernel_rfl) ?_; refine st_past (by kernel_rfl) ?_; refine st_past (by kernel_rfl) ?_; exact st_nil), ?_⟩)
        (refine dwP ?_; refine dwP ?_; refine dw_nil ?_; skip)
        refine walk ?_
        (first | (apply retRD1 (G := H) (.inr rfl) rfl; (· first | (refine rv_tmp (v := .bool _) rfl) | exact rv_tmp rfl); (· exact Ent.auto)) | (apply retRD1 (G := H) (.inl rfl) rfl; (· first | (refine rv_tmp (v := .bool _) rfl) | exact rv_tmp rfl); (· exact Ent.auto)))
        exact ⟨Ent.refl _, rfl⟩
      | true =>
        rw [Bool.true_and]
        cases hB : fieldB (decide ((112 : UInt8) ∈ fK n.kind)) n.p J.c.n with
        | false =>
          rw [Bool.false_and]
          refine fn_intro 58 Tryz.func50 rfl rfl rfl ?_
          refine walk ?_
          refine s_box (cs := rfC J a) rfl rfl rfl ?_
          intro b
          refine walk ?_
          refine s_box (cs := nv n) rfl rfl rfl ?_
          intro b3
          refine walk ?_
          refine s_call rfl (rFields (J := J) (a := a) (kind := n.kind)) rfl ?_
          rintro _ _ ⟨e_, rfl⟩
          obtain rfl := e_.symm
          refine walk ?_
          (refine wp_draw [1, 7, 10, 16, 20, 26, 30, 34] (.look 0 (.look 2 (.look 3 (.look 4 (.look 5 (.look 6 (.act 1 (.act 7 (.look 8 (.look 9 (.look 11 (.look 12 (.look 13 (.look 14 (.look 15 (.act 10 (.act 16 (.look 17 (.look 18 (.look 19 (.look 21 (.look 22 (.look 23 (.look 24 (.look 25 (.act 20 (.act 26 (.look 27 (.look 28 (.look 29 (.look 31 (.look 32 (.look 33 (.act 30 (.act 34 (.look 35 (.look 36 .nil)) .stop) .stop))))))) .stop) .stop))))))))) .stop) .stop)))))))) .stop) .stop))))))) (by kernel_rfl) ?_; refine dwP ?_; refine dwP ?_; refine dwL ?_; refine dwP ?_; refine dwP ?_; refine dwL ?_; skip)
          refine dw_do rfl rfl ?_ dw_stop
          refine s_call rfl (rHasC (l := fK n.kind) (ch := 103) (by omega)) rfl ?_
          rintro _ _ ⟨e_, rfl⟩
          obtain rfl := e_.symm
          refine wpl_nil (qone ⟨(by (refine st_again ?_ ?_; (· exact looked)); (refine st_again ?_ ?_; (· exact looked)); exact st_nil), ?_⟩)
          (skip)
          refine dw_do rfl rfl ?_ dw_stop
          refine s_call rfl (rField (nb := decide ((103 : UInt8) ∈ fK n.kind)) (v := n.g) (bd := J.c.g)) rfl ?_
          rintro _ _ ⟨e_, rfl⟩
          obtain rfl := e_.symm
          rw [hA]
          refine wpl_nil (qone ⟨(by refine st_past (by kernel_rfl) ?_; refine st_past (by kernel_rfl) ?_; exact st_nil), ?_⟩)
          (refine dwP ?_; refine dwP ?_; refine dwP ?_; refine dwL ?_; refine dwP ?_; refine dwP ?_; refine dwL ?_; skip)
          refine dw_do rfl rfl ?_ dw_stop
          refine step_wanted rfl rfl ?_
          refine s_call rfl (rHasC (l := fK n.kind) (ch := 112) (by omega)) rfl ?_
          rintro _ _ ⟨e_, rfl⟩
          obtain rfl := e_.symm
          refine wpl_nil (qone ⟨(by (refine st_again ?_ ?_; (· exact looked)); (refine st_again ?_ ?_; (· exact looked)); refine st_past (by kernel_rfl) ?_; refine st_past (by kernel_rfl) ?_; exact st_nil), ?_⟩)
          (skip)
          refine dw_do rfl rfl ?_ dw_stop
          refine step_wanted rfl rfl ?_
          refine s_call rfl (rField (nb := decide ((112 : UInt8) ∈ fK n.kind)) (v := n.p) (bd := J.c.n)) rfl ?_
          rintro _ _ ⟨e_, rfl⟩
          obtain rfl := e_.symm
          rw [hB]
          refine wpl_nil (qone ⟨(by refine st_past (by kernel_rfl) ?_; refine st_past (by kernel_rfl) ?_; refine st_past (by kernel_rfl) ?_; refine st_past (by kernel_rfl) ?_; exact st_nil), ?_⟩)
          (refine dwP ?_; refine dwP ?_; refine dwP ?_; refine dwP ?_; refine dwL ?_; refine dwP ?_; refine dwP ?_; refine dwL ?_; skip)
          refine dw_do rfl rfl ?_ dw_stop
          (first | refine step_unwanted rfl rfl rfl rfl ?_ | refine step_unwantedU rfl rfl rfl ?_ | refine step_unwanted0 rfl rfl rfl ?_ | refine step_unwantedU0 rfl rfl ?_)
          refine wpl_nil (qone ⟨(by (refine st_again ?_ ?_; (· exact looked)); (refine st_again ?_ ?_; (· exact looked)); refine st_past (by kernel_rfl) ?_; refine st_past (by kernel_rfl) ?_; refine st_past (by kernel_rfl) ?_; refine st_past (by kernel_rfl) ?_; exact st_nil), ?_⟩)
          (skip)
          refine dw_do rfl rfl ?_ dw_stop
          (first | refine step_unwanted rfl rfl rfl rfl ?_ | refine step_unwantedU rfl rfl rfl ?_ | refine step_unwanted0 rfl rfl rfl ?_ | refine step_unwantedU0 rfl rfl ?_)
          refine wpl_nil (qone ⟨(by refine st_past (by kernel_rfl) ?_; refine st_past (by kernel_rfl) ?_; refine st_past (by kernel_rfl) ?_; refine st_past (by kernel_rfl) ?_; refine st_past (by kernel_rfl) ?_; refine st_past (by kernel_rfl) ?_; exact st_nil), ?_⟩)
          (refine dwP ?_; refine dwP ?_; refine dwP ?_; refine dwP ?_; refine dwL ?_; refine dwP ?_; skip)
          refine dw_do rfl rfl ?_ dw_stop
          (first | refine step_unwanted rfl rfl rfl rfl ?_ | refine step_unwantedU rfl rfl rfl ?_ | refine step_unwanted0 rfl rfl rfl ?_ | refine step_unwantedU0 rfl rfl ?_)
          refine wpl_nil (qone ⟨(by (refine st_again ?_ ?_; (· exact looked)); refine st_past (by kernel_rfl) ?_; refine st_past (by kernel_rfl) ?_; refine st_past (by kernel_rfl) ?_; refine st_past (by kernel_rfl) ?_; refine st_past (by kernel_rfl) ?_; refine st_past (by kernel_rfl) ?_; exact st_nil), ?_⟩)
          (skip)
          refine dw_do rfl rfl ?_ dw_stop
          (first | refine step_unwanted rfl rfl rfl rfl ?_ | refine step_unwantedU rfl rfl rfl ?_ | refine step_unwanted0 rfl rfl rfl ?_ | refine step_unwantedU0 rfl rfl ?_)
          refine wpl_nil (qone ⟨(by refine st_past (by kernel_rfl) ?_; refine st_past (by kernel_rfl) ?_; refine st_past (by kernel_rfl) ?_; refine st_past (by kernel_rfl) ?_; refine st_past (by kernel_rfl) ?_; refine st_past (by kernel_rfl) ?_; refine st_past (by kernel_rfl) ?_; exact st_nil), ?_⟩)
          (refine dwP ?_; refine dwP ?_; refine dw_nil ?_; skip)
          refine walk ?_
          (first | (apply retRD1 (G := H) (.inr rfl) rfl; (· first | (refine rv_tmp (v := .bool _) rfl) | exact rv_tmp rfl); (· exact Ent.auto)) | (apply retRD1 (G := H) (.inl rfl) rfl; (· first | (refine rv_tmp (v := .bool _) rfl) | exact rv_tmp rfl); (· exact Ent.auto)))
          exact ⟨Ent.refl _, rfl⟩
        | true =>
          rw [Bool.true_and]
          cases hC : fieldB (decide ((109 : UInt8) ∈ fK n.kind)) n.m J.c.m with
          | false =>
            rw [Bool.false_and]
            refine fn_intro 58 Tryz.func50 rfl rfl rfl ?_
            refine walk ?_
            refine s_box (cs := rfC J a) rfl rfl rfl ?_
            intro b
            refine walk ?_
            refine s_box (cs := nv n) rfl rfl rfl ?_
            intro b3
            refine walk ?_
            refine s_call rfl (rFields (J := J) (a := a) (kind := n.kind)) rfl ?_
            rintro _ _ ⟨e_, rfl⟩
            obtain rfl := e_.symm
            refine walk ?_
            (refine wp_draw [1, 7, 10, 16, 20, 26, 30, 34] (.look 0 (.look 2 (.look 3 (.look 4 (.look 5 (.look 6 (.act 1 (.act 7 (.look 8 (.look 9 (.look 11 (.look 12 (.look 13 (.look 14 (.look 15 (.act 10 (.act 16 (.look 17 (.look 18 (.look 19 (.look 21 (.look 22 (.look 23 (.look 24 (.look 25 (.act 20 (.act 26 (.look 27 (.look 28 (.look 29 (.look 31 (.look 32 (.look 33 (.act 30 (.act 34 (.look 35 (.look 36 .nil)) .stop) .stop))))))) .stop) .stop))))))))) .stop) .stop)))))))) .stop) .stop))))))) (by kernel_rfl) ?_; refine dwP ?_; refine dwP ?_; refine dwL ?_; refine dwP ?_; refine dwP ?_; refine dwL ?_; skip)
            refine dw_do rfl rfl ?_ dw_stop
            refine s_call rfl (rHasC (l := fK n.kind) (ch := 103) (by omega)) rfl ?_
            rintro _ _ ⟨e_, rfl⟩
            obtain rfl := e_.symm
            refine wpl_nil (qone ⟨(by (refine st_again ?_ ?_; (· exact looked)); (refine st_again ?_ ?_; (· exact looked)); exact st_nil), ?_⟩)
            (skip)
            refine dw_do rfl rfl ?_ dw_stop
            refine s_call rfl (rField (nb := decide ((103 : UInt8) ∈ fK n.kind)) (v := n.g) (bd := J.c.g)) rfl ?_
            rintro _ _ ⟨e_, rfl⟩
            obtain rfl := e_.symm
            rw [hA]
            refine wpl_nil (qone ⟨(by refine st_past (by kernel_rfl) ?_; refine st_past (by kernel_rfl) ?_; exact st_nil), ?_⟩)
            (refine dwP ?_; refine dwP ?_; refine dwP ?_; refine dwL ?_; refine dwP ?_; refine dwP ?_; refine dwL ?_; skip)
            refine dw_do rfl rfl ?_ dw_stop
            refine step_wanted rfl rfl ?_
            refine s_call rfl (rHasC (l := fK n.kind) (ch := 112) (by omega)) rfl ?_
            rintro _ _ ⟨e_, rfl⟩
            obtain rfl := e_.symm
            refine wpl_nil (qone ⟨(by (refine st_again ?_ ?_; (· exact looked)); (refine st_again ?_ ?_; (· exact looked)); refine st_past (by kernel_rfl) ?_; refine st_past (by kernel_rfl) ?_; exact st_nil), ?_⟩)
            (skip)
            refine dw_do rfl rfl ?_ dw_stop
            refine step_wanted rfl rfl ?_
            refine s_call rfl (rField (nb := decide ((112 : UInt8) ∈ fK n.kind)) (v := n.p) (bd := J.c.n)) rfl ?_
            rintro _ _ ⟨e_, rfl⟩
            obtain rfl := e_.symm
            rw [hB]
            refine wpl_nil (qone ⟨(by refine st_past (by kernel_rfl) ?_; refine st_past (by kernel_rfl) ?_; refine st_past (by kernel_rfl) ?_; refine st_past (by kernel_rfl) ?_; exact st_nil), ?_⟩)
            (refine dwP ?_; refine dwP ?_; refine dwP ?_; refine dwP ?_; refine dwL ?_; refine dwP ?_; refine dwP ?_; refine dwL ?_; skip)
            refine dw_do rfl rfl ?_ dw_stop
            refine step_wanted rfl rfl ?_
            refine s_call rfl (rHasC (l := fK n.kind) (ch := 109) (by omega)) rfl ?_
            rintro _ _ ⟨e_, rfl⟩
            obtain rfl := e_.symm
            refine wpl_nil (qone ⟨(by (refine st_again ?_ ?_; (· exact looked)); (refine st_again ?_ ?_; (· exact looked)); refine st_past (by kernel_rfl) ?_; refine st_past (by kernel_rfl) ?_; refine st_past (by kernel_rfl) ?_; refine st_past (by kernel_rfl) ?_; exact st_nil), ?_⟩)
            (skip)
            refine dw_do rfl rfl ?_ dw_stop
            refine step_wanted rfl rfl ?_
            refine s_call rfl (rField (nb := decide ((109 : UInt8) ∈ fK n.kind)) (v := n.m) (bd := J.c.m)) rfl ?_
            rintro _ _ ⟨e_, rfl⟩
            obtain rfl := e_.symm
            rw [hC]
            refine wpl_nil (qone ⟨(by refine st_past (by kernel_rfl) ?_; refine st_past (by kernel_rfl) ?_; refine st_past (by kernel_rfl) ?_; refine st_past (by kernel_rfl) ?_; refine st_past (by kernel_rfl) ?_; refine st_past (by kernel_rfl) ?_; exact st_nil), ?_⟩)
            (refine dwP ?_; refine dwP ?_; refine dwP ?_; refine dwP ?_; refine dwL ?_; refine dwP ?_; skip)
            refine dw_do rfl rfl ?_ dw_stop
            (first | refine step_unwanted rfl rfl rfl rfl ?_ | refine step_unwantedU rfl rfl rfl ?_ | refine step_unwanted0 rfl rfl rfl ?_ | refine step_unwantedU0 rfl rfl ?_)
            refine wpl_nil (qone ⟨(by (refine st_again ?_ ?_; (· exact looked)); refine st_past (by kernel_rfl) ?_; refine st_past (by kernel_rfl) ?_; refine st_past (by kernel_rfl) ?_; refine st_past (by kernel_rfl) ?_; refine st_past (by kernel_rfl) ?_; refine st_past (by kernel_rfl) ?_; exact st_nil), ?_⟩)
            (skip)
            refine dw_do rfl rfl ?_ dw_stop
            (first | refine step_unwanted rfl rfl rfl rfl ?_ | refine step_unwantedU rfl rfl rfl ?_ | refine step_unwanted0 rfl rfl rfl ?_ | refine step_unwantedU0 rfl rfl ?_)
            refine wpl_nil (qone ⟨(by refine st_past (by kernel_rfl) ?_; refine st_past (by kernel_rfl) ?_; refine st_past (by kernel_rfl) ?_; refine st_past (by kernel_rfl) ?_; refine st_past (by kernel_rfl) ?_; refine st_past (by kernel_rfl) ?_; refine st_past (by kernel_rfl) ?_; exact st_nil), ?_⟩)
            (refine dwP ?_; refine dwP ?_; refine dw_nil ?_; skip)
            refine walk ?_
            (first | (apply retRD1 (G := H) (.inr rfl) rfl; (· first | (refine rv_tmp (v := .bool _) rfl) | exact rv_tmp rfl); (· exact Ent.auto)) | (apply retRD1 (G := H) (.inl rfl) rfl; (· first | (refine rv_tmp (v := .bool _) rfl) | exact rv_tmp rfl); (· exact Ent.auto)))
            exact ⟨Ent.refl _, rfl⟩
          | true =>
            rw [Bool.true_and]
            cases hD : fieldB (decide ((120 : UInt8) ∈ fK n.kind)) n.x (xK J.c n.kind) with
            | false =>
              refine fn_intro 58 Tryz.func50 rfl rfl rfl ?_
              refine walk ?_
              refine s_box (cs := rfC J a) rfl rfl rfl ?_
              intro b
              refine walk ?_
              refine s_box (cs := nv n) rfl rfl rfl ?_
              intro b3
              refine walk ?_
              refine s_call rfl (rFields (J := J) (a := a) (kind := n.kind)) rfl ?_
              rintro _ _ ⟨e_, rfl⟩
              obtain rfl := e_.symm
              refine walk ?_
              (refine wp_draw [1, 7, 10, 16, 20, 26, 30, 34] (.look 0 (.look 2 (.look 3 (.look 4 (.look 5 (.look 6 (.act 1 (.act 7 (.look 8 (.look 9 (.look 11 (.look 12 (.look 13 (.look 14 (.look 15 (.act 10 (.act 16 (.look 17 (.look 18 (.look 19 (.look 21 (.look 22 (.look 23 (.look 24 (.look 25 (.act 20 (.act 26 (.look 27 (.look 28 (.look 29 (.look 31 (.look 32 (.look 33 (.act 30 (.act 34 (.look 35 (.look 36 .nil)) .stop) .stop))))))) .stop) .stop))))))))) .stop) .stop)))))))) .stop) .stop))))))) (by kernel_rfl) ?_; refine dwP ?_; refine dwP ?_; refine dwL ?_; refine dwP ?_; refine dwP ?_; refine dwL ?_; skip)
              refine dw_do rfl rfl ?_ dw_stop
              refine s_call rfl (rHasC (l := fK n.kind) (ch := 103) (by omega)) rfl ?_
              rintro _ _ ⟨e_, rfl⟩
              obtain rfl := e_.symm
              refine wpl_nil (qone ⟨(by (refine st_again ?_ ?_; (· exact looked)); (refine st_again ?_ ?_; (· exact looked)); exact st_nil), ?_⟩)
              (skip)
              refine dw_do rfl rfl ?_ dw_stop
              refine s_call rfl (rField (nb := decide ((103 : UInt8) ∈ fK n.kind)) (v := n.g) (bd := J.c.g)) rfl ?_
              rintro _ _ ⟨e_, rfl⟩
              obtain rfl := e_.symm
              rw [hA]
              refine wpl_nil (qone ⟨(by refine st_past (by kernel_rfl) ?_; refine st_past (by kernel_rfl) ?_; exact st_nil), ?_⟩)
              (refine dwP ?_; refine dwP ?_; refine dwP ?_; refine dwL ?_; refine dwP ?_; refine dwP ?_; refine dwL ?_; skip)
              refine dw_do rfl rfl ?_ dw_stop
              refine step_wanted rfl rfl ?_
              refine s_call rfl (rHasC (l := fK n.kind) (ch := 112) (by omega)) rfl ?_
              rintro _ _ ⟨e_, rfl⟩
              obtain rfl := e_.symm
              refine wpl_nil (qone ⟨(by (refine st_again ?_ ?_; (· exact looked)); (refine st_again ?_ ?_; (· exact looked)); refine st_past (by kernel_rfl) ?_; refine st_past (by kernel_rfl) ?_; exact st_nil), ?_⟩)
              (skip)
              refine dw_do rfl rfl ?_ dw_stop
              refine step_wanted rfl rfl ?_
              refine s_call rfl (rField (nb := decide ((112 : UInt8) ∈ fK n.kind)) (v := n.p) (bd := J.c.n)) rfl ?_
              rintro _ _ ⟨e_, rfl⟩
              obtain rfl := e_.symm
              rw [hB]
              refine wpl_nil (qone ⟨(by refine st_past (by kernel_rfl) ?_; refine st_past (by kernel_rfl) ?_; refine st_past (by kernel_rfl) ?_; refine st_past (by kernel_rfl) ?_; exact st_nil), ?_⟩)
              (refine dwP ?_; refine dwP ?_; refine dwP ?_; refine dwP ?_; refine dwL ?_; refine dwP ?_; refine dwP ?_; refine dwL ?_; skip)
              refine dw_do rfl rfl ?_ dw_stop
              refine step_wanted rfl rfl ?_
              refine s_call rfl (rHasC (l := fK n.kind) (ch := 109) (by omega)) rfl ?_
              rintro _ _ ⟨e_, rfl⟩
              obtain rfl := e_.symm
              refine wpl_nil (qone ⟨(by (refine st_again ?_ ?_; (· exact looked)); (refine st_again ?_ ?_; (· exact looked)); refine st_past (by kernel_rfl) ?_; refine st_past (by kernel_rfl) ?_; refine st_past (by kernel_rfl) ?_; refine st_past (by kernel_rfl) ?_; exact st_nil), ?_⟩)
              (skip)
              refine dw_do rfl rfl ?_ dw_stop
              refine step_wanted rfl rfl ?_
              refine s_call rfl (rField (nb := decide ((109 : UInt8) ∈ fK n.kind)) (v := n.m) (bd := J.c.m)) rfl ?_
              rintro _ _ ⟨e_, rfl⟩
              obtain rfl := e_.symm
              rw [hC]
              refine wpl_nil (qone ⟨(by refine st_past (by kernel_rfl) ?_; refine st_past (by kernel_rfl) ?_; refine st_past (by kernel_rfl) ?_; refine st_past (by kernel_rfl) ?_; refine st_past (by kernel_rfl) ?_; refine st_past (by kernel_rfl) ?_; exact st_nil), ?_⟩)
              (refine dwP ?_; refine dwP ?_; refine dwP ?_; refine dwP ?_; refine dwL ?_; refine dwP ?_; skip)
              refine dw_do rfl rfl ?_ dw_stop
              refine step_wanted rfl rfl ?_
              refine s_call rfl (rHasC (l := fK n.kind) (ch := 120) (by omega)) rfl ?_
              rintro _ _ ⟨e_, rfl⟩
              obtain rfl := e_.symm
              refine wpl_nil (qone ⟨(by (refine st_again ?_ ?_; (· exact looked)); refine st_past (by kernel_rfl) ?_; refine st_past (by kernel_rfl) ?_; refine st_past (by kernel_rfl) ?_; refine st_past (by kernel_rfl) ?_; refine st_past (by kernel_rfl) ?_; refine st_past (by kernel_rfl) ?_; exact st_nil), ?_⟩)
              (skip)
              refine dw_do rfl rfl ?_ dw_stop
              refine step_wanted rfl rfl ?_
              refine s_call rfl (rField (nb := decide ((120 : UInt8) ∈ fK n.kind)) (v := n.x) (bd := (xK J.c n.kind))) rfl ?_
              rintro _ _ ⟨e_, rfl⟩
              obtain rfl := e_.symm
              rw [hD]
              refine wpl_nil (qone ⟨(by refine st_past (by kernel_rfl) ?_; refine st_past (by kernel_rfl) ?_; refine st_past (by kernel_rfl) ?_; refine st_past (by kernel_rfl) ?_; refine st_past (by kernel_rfl) ?_; refine st_past (by kernel_rfl) ?_; refine st_past (by kernel_rfl) ?_; exact st_nil), ?_⟩)
              (refine dwP ?_; refine dwP ?_; refine dw_nil ?_; skip)
              refine walk ?_
              (first | (apply retRD1 (G := H) (.inr rfl) rfl; (· first | (refine rv_tmp (v := .bool _) rfl) | exact rv_tmp rfl); (· exact Ent.auto)) | (apply retRD1 (G := H) (.inl rfl) rfl; (· first | (refine rv_tmp (v := .bool _) rfl) | exact rv_tmp rfl); (· exact Ent.auto)))
              exact ⟨Ent.refl _, rfl⟩
            | true =>
              refine fn_intro 58 Tryz.func50 rfl rfl rfl ?_
              refine walk ?_
              refine s_box (cs := rfC J a) rfl rfl rfl ?_
              intro b
              refine walk ?_
              refine s_box (cs := nv n) rfl rfl rfl ?_
              intro b3
              refine walk ?_
              refine s_call rfl (rFields (J := J) (a := a) (kind := n.kind)) rfl ?_
              rintro _ _ ⟨e_, rfl⟩
              obtain rfl := e_.symm
              refine walk ?_
              (refine wp_draw [1, 7, 10, 16, 20, 26, 30, 34] (.look 0 (.look 2 (.look 3 (.look 4 (.look 5 (.look 6 (.act 1 (.act 7 (.look 8 (.look 9 (.look 11 (.look 12 (.look 13 (.look 14 (.look 15 (.act 10 (.act 16 (.look 17 (.look 18 (.look 19 (.look 21 (.look 22 (.look 23 (.look 24 (.look 25 (.act 20 (.act 26 (.look 27 (.look 28 (.look 29 (.look 31 (.look 32 (.look 33 (.act 30 (.act 34 (.look 35 (.look 36 .nil)) .stop) .stop))))))) .stop) .stop))))))))) .stop) .stop)))))))) .stop) .stop))))))) (by kernel_rfl) ?_; refine dwP ?_; refine dwP ?_; refine dwL ?_; refine dwP ?_; refine dwP ?_; refine dwL ?_; skip)
              refine dw_do rfl rfl ?_ dw_stop
              refine s_call rfl (rHasC (l := fK n.kind) (ch := 103) (by omega)) rfl ?_
              rintro _ _ ⟨e_, rfl⟩
              obtain rfl := e_.symm
              refine wpl_nil (qone ⟨(by (refine st_again ?_ ?_; (· exact looked)); (refine st_again ?_ ?_; (· exact looked)); exact st_nil), ?_⟩)
              (skip)
              refine dw_do rfl rfl ?_ dw_stop
              refine s_call rfl (rField (nb := decide ((103 : UInt8) ∈ fK n.kind)) (v := n.g) (bd := J.c.g)) rfl ?_
              rintro _ _ ⟨e_, rfl⟩
              obtain rfl := e_.symm
              rw [hA]
              refine wpl_nil (qone ⟨(by refine st_past (by kernel_rfl) ?_; refine st_past (by kernel_rfl) ?_; exact st_nil), ?_⟩)
              (refine dwP ?_; refine dwP ?_; refine dwP ?_; refine dwL ?_; refine dwP ?_; refine dwP ?_; refine dwL ?_; skip)
              refine dw_do rfl rfl ?_ dw_stop
              refine step_wanted rfl rfl ?_
              refine s_call rfl (rHasC (l := fK n.kind) (ch := 112) (by omega)) rfl ?_
              rintro _ _ ⟨e_, rfl⟩
              obtain rfl := e_.symm
              refine wpl_nil (qone ⟨(by (refine st_again ?_ ?_; (· exact looked)); (refine st_again ?_ ?_; (· exact looked)); refine st_past (by kernel_rfl) ?_; refine st_past (by kernel_rfl) ?_; exact st_nil), ?_⟩)
              (skip)
              refine dw_do rfl rfl ?_ dw_stop
              refine step_wanted rfl rfl ?_
              refine s_call rfl (rField (nb := decide ((112 : UInt8) ∈ fK n.kind)) (v := n.p) (bd := J.c.n)) rfl ?_
              rintro _ _ ⟨e_, rfl⟩
              obtain rfl := e_.symm
              rw [hB]
              refine wpl_nil (qone ⟨(by refine st_past (by kernel_rfl) ?_; refine st_past (by kernel_rfl) ?_; refine st_past (by kernel_rfl) ?_; refine st_past (by kernel_rfl) ?_; exact st_nil), ?_⟩)
              (refine dwP ?_; refine dwP ?_; refine dwP ?_; refine dwP ?_; refine dwL ?_; refine dwP ?_; refine dwP ?_; refine dwL ?_; skip)
              refine dw_do rfl rfl ?_ dw_stop
              refine step_wanted rfl rfl ?_
              refine s_call rfl (rHasC (l := fK n.kind) (ch := 109) (by omega)) rfl ?_
              rintro _ _ ⟨e_, rfl⟩
              obtain rfl := e_.symm
              refine wpl_nil (qone ⟨(by (refine st_again ?_ ?_; (· exact looked)); (refine st_again ?_ ?_; (· exact looked)); refine st_past (by kernel_rfl) ?_; refine st_past (by kernel_rfl) ?_; refine st_past (by kernel_rfl) ?_; refine st_past (by kernel_rfl) ?_; exact st_nil), ?_⟩)
              (skip)
              refine dw_do rfl rfl ?_ dw_stop
              refine step_wanted rfl rfl ?_
              refine s_call rfl (rField (nb := decide ((109 : UInt8) ∈ fK n.kind)) (v := n.m) (bd := J.c.m)) rfl ?_
              rintro _ _ ⟨e_, rfl⟩
              obtain rfl := e_.symm
              rw [hC]
              refine wpl_nil (qone ⟨(by refine st_past (by kernel_rfl) ?_; refine st_past (by kernel_rfl) ?_; refine st_past (by kernel_rfl) ?_; refine st_past (by kernel_rfl) ?_; refine st_past (by kernel_rfl) ?_; refine st_past (by kernel_rfl) ?_; exact st_nil), ?_⟩)
              (refine dwP ?_; refine dwP ?_; refine dwP ?_; refine dwP ?_; refine dwL ?_; refine dwP ?_; skip)
              refine dw_do rfl rfl ?_ dw_stop
              refine step_wanted rfl rfl ?_
              refine s_call rfl (rHasC (l := fK n.kind) (ch := 120) (by omega)) rfl ?_
              rintro _ _ ⟨e_, rfl⟩
              obtain rfl := e_.symm
              refine wpl_nil (qone ⟨(by (refine st_again ?_ ?_; (· exact looked)); refine st_past (by kernel_rfl) ?_; refine st_past (by kernel_rfl) ?_; refine st_past (by kernel_rfl) ?_; refine st_past (by kernel_rfl) ?_; refine st_past (by kernel_rfl) ?_; refine st_past (by kernel_rfl) ?_; exact st_nil), ?_⟩)
              (skip)
              refine dw_do rfl rfl ?_ dw_stop
              refine step_wanted rfl rfl ?_
              refine s_call rfl (rField (nb := decide ((120 : UInt8) ∈ fK n.kind)) (v := n.x) (bd := (xK J.c n.kind))) rfl ?_
              rintro _ _ ⟨e_, rfl⟩
              obtain rfl := e_.symm
              rw [hD]
              refine wpl_nil (qone ⟨(by refine st_past (by kernel_rfl) ?_; refine st_past (by kernel_rfl) ?_; refine st_past (by kernel_rfl) ?_; refine st_past (by kernel_rfl) ?_; refine st_past (by kernel_rfl) ?_; refine st_past (by kernel_rfl) ?_; refine st_past (by kernel_rfl) ?_; exact st_nil), ?_⟩)
              (refine dwP ?_; refine dwP ?_; refine dw_nil ?_; skip)
              refine walk ?_
              (first | (apply retRD1 (G := H) (.inr rfl) rfl; (· first | (refine rv_tmp (v := .bool _) rfl) | exact rv_tmp rfl); (· exact Ent.auto)) | (apply retRD1 (G := H) (.inl rfl) rfl; (· first | (refine rv_tmp (v := .bool _) rfl) | exact rv_tmp rfl); (· exact Ent.auto)))
              exact ⟨Ent.refl _, rfl⟩
    · rw [decide_eq_false (show ¬ (1 ≤ n.kind ∧ n.kind ≤ 16) from fun h => h2 h.2), Bool.false_and]
      refine fn_intro 58 Tryz.func50 rfl rfl rfl ?_
      refine walk ?_
      refine s_box (cs := rfC J a) rfl rfl rfl ?_
      intro b
      refine walk ?_
      refine s_box (cs := nv n) rfl rfl rfl ?_
      intro b3
      refine walk ?_
      (first | (apply retRD1 (G := H) (.inr rfl) rfl; (· first | (refine rv_tmp (v := .bool _) rfl) | exact rv_tmp rfl); (· exact Ent.auto)) | (apply retRD1 (G := H) (.inl rfl) rfl; (· first | (refine rv_tmp (v := .bool _) rfl) | exact rv_tmp rfl); (· exact Ent.auto)))
      exact ⟨Ent.refl _, rfl⟩
  · rw [decide_eq_false (show ¬ (1 ≤ n.kind ∧ n.kind ≤ 16) from fun h => h1 h.1), Bool.false_and]
    refine fn_intro 58 Tryz.func50 rfl rfl rfl ?_
    refine walk ?_
    refine s_box (cs := rfC J a) rfl rfl rfl ?_
    intro b
    refine walk ?_
    refine s_box (cs := nv n) rfl rfl rfl ?_
    intro b3
    refine walk ?_
    (first | (apply retRD1 (G := H) (.inr rfl) rfl; (· first | (refine rv_tmp (v := .bool _) rfl) | exact rv_tmp rfl); (· exact Ent.auto)) | (apply retRD1 (G := H) (.inl rfl) rfl; (· first | (refine rv_tmp (v := .bool _) rfl) | exact rv_tmp rfl); (· exact Ent.auto)))
    exact ⟨Ent.refl _, rfl⟩
theorem rCallers (hr : RI B H J a) (hl : J.ms.length ≤ 16) : Does Tryz.prog B 42 [rfV J a] H fun r H' => H' = H ∧ r = .int .i64 (J.callers : Int) := by
  refine Does.frame0 ?_
  refine fn_intro 22 Tryz.func42 rfl rfl rfl ?_
  refine walk ?_
  refine s_box (cs := rfC J a) rfl rfl rfl ?_
  intro b
  refine walk ?_
  refine wp_loopF (α := Nat) [3, 4, 5, 6, 7, 8, 9, 10, 11, 12, 13, 14, 15, 16, 17, 18, 19, 20] (fun k => [(4, .int .i64 k), (3, .int .i64 ((J.ms.take k).countP (fun m => decide (m.a = 3)) : Nat))]) (fun _ => blk b (rfC J a) 35 + H) (fun k => k ≤ J.ms.length) (fun k => J.ms.length - k) 0 agreed (Ent.refl _) (by omega) ?_
  intro k f hk
  simp only [putAll]
  by_cases hlt : k < J.ms.length
  · obtain ⟨bm, om, e, hc⟩ := hr.msA hlt
    have hc0 : Cell B H bm (om + k * 4) (.int .i64 J.ms[k].a) := hc.cell (j := 0) rfl
    have ct : (J.ms.take (k + 1)).countP (fun m => decide (m.a = 3)) = (J.ms.take k).countP (fun m => decide (m.a = 3)) + if J.ms[k].a = 3 then 1 else 0 := by
      rw [List.take_succ_eq_append_getElem hlt, List.countP_append]
      simp [List.countP_cons]
    have cb := List.countP_le_length (p := fun m : Mc => decide (m.a = 3)) (l := J.ms.take k)
    rw [List.length_take] at cb
    have cb16 : (J.ms.take k).countP (fun m => decide (m.a = 3)) ≤ 16 := by omega
    by_cases h3 : J.ms[k].a = 3
    · rw [if_pos h3] at ct
      refine walk ?_
      rw [e]
      (apply s_indexAddr (j := k) (o' := om + k * 4); (· exact rfl); (· exact rfl); (· omega); (· omega); (· omega); (· exact rfl))
      refine walk ?_
      exact ⟨k + 1, asided, agreed, Ent.refl _, by omega, by omega⟩
    · rw [if_neg h3] at ct
      refine walk ?_
      rw [e]
      (apply s_indexAddr (j := k) (o' := om + k * 4); (· exact rfl); (· exact rfl); (· omega); (· omega); (· omega); (· exact rfl))
      refine walk ?_
      exact ⟨k + 1, asided, agreed, Ent.refl _, by omega, by omega⟩
  · have e : J.ms.take k = J.ms := List.take_of_length_le (by omega)
    rw [e]
    refine walk ?_
    (first | (apply retRD1 (G := H) (.inr rfl) rfl; (· first | (refine rv_tmp (v := .int _ _) rfl) | exact rv_tmp rfl); (· exact Ent.auto)) | (apply retRD1 (G := H) (.inl rfl) rfl; (· first | (refine rv_tmp (v := .int _ _) rfl) | exact rv_tmp rfl); (· exact Ent.auto)))
    exact ⟨Ent.refl _, rfl⟩
end
end Go.Proofs.YtlhnmbajbhaaoaaGreat
namespace Go.Proofs.YtlhnmbajbhaaoaaGreat
open Go Go.SL
set_option linter.unusedSimpArgs false
set_option linter.unusedVariables false
set_option maxRecDepth 10000
set_option maxHeartbeats 4000000
attribute [local irreducible] WP WPL QSeq QBlk QRet Does Cell Cells Rd Mine Ent Aside RV Yield TabAt SemAt IdeAt
section
variable {B : World} {H F G : HProp} {J : Ide} {a : RA} {n : Nt} {p s v bd : Int} {K : Int} {cnt : List Int} {j : Nat} {l : List Int} {c : Int}
theorem rFirst (hr : RI B H J a) (hj : J.sem[j]? = some (l, c)) (hj4 : j < 4) : Does Tryz.prog B 51 [rfV J a, .int .i64 (j : Int)] H fun r H' => H' = H ∧ r = .int .i64 (l.headD (-1)) := by
  refine Does.frame0 ?_
  obtain ⟨b, o, o2, k2, e, hc, hrd⟩ := hr.wtA hj
  obtain ⟨at_, oc_, kc_, ow_, kw_, om_, km_, op_, kp_, ws_⟩ := a
  simp only at e
  subst e
  refine fn_intro 19 Tryz.func51 rfl rfl rfl ?_
  refine walk ?_
  refine s_box rfl rfl rfl ?_
  intro b2
  refine walk ?_
  cases l with
  | nil =>
    simp only [List.length_nil] at hc hrd ⊢
    refine walk ?_
    (first | (apply retRD1 (G := H) (.inr rfl) rfl; (· first | (refine rv_tmp (v := .int _ _) rfl) | exact rv_tmp rfl); (· exact Ent.auto)) | (apply retRD1 (G := H) (.inl rfl) rfl; (· first | (refine rv_tmp (v := .int _ _) rfl) | exact rv_tmp rfl); (· exact Ent.auto)))
    exact ⟨Ent.refl _, rfl⟩
  | cons y t =>
    obtain ⟨b3, o3, e3, hc3⟩ := rd_one (k := 0) hrd (v := .int .i64 y) rfl
    subst e3
    simp only [List.length_cons] at hc hrd ⊢
    refine walk ?_
    (apply s_indexAddr (j := 0) (o' := o3); (· exact rfl); (· exact rfl); (· omega); (· omega); (· omega); (· exact rfl))
    refine walk ?_
    (first | (apply retRD1 (G := H) (.inr rfl) rfl; (· first | (refine rv_tmp (v := .int _ _) rfl) | exact rv_tmp rfl); (· exact Ent.auto)) | (apply retRD1 (G := H) (.inl rfl) rfl; (· first | (refine rv_tmp (v := .int _ _) rfl) | exact rv_tmp rfl); (· exact Ent.auto)))
    exact ⟨Ent.refl _, rfl⟩
theorem rKept (hr : RI B H J a) (hp : 0 ≤ p ∧ p < J.ps.length) (hv : J.pAt p < J.ms.length) : Does Tryz.prog B 52 [rfV J a, .int .i64 p] H fun r H' => H' = H ∧ r = .bool (J.kept p) := by
  obtain ⟨kp, v, rfl, hk, hA⟩ := pGet (I := J) hp
  have hkl := (List.getElem?_eq_some_iff.1 hk).1
  obtain ⟨bp, op, ep, cp⟩ := hr.psA hkl
  have hkv : J.ps[kp] = v := (List.getElem?_eq_some_iff.1 hk).2
  rw [hkv] at cp
  unfold Ide.kept
  rw [hA] at hv ⊢
  refine Does.frame0 ?_
  by_cases h0 : 0 ≤ v
  · obtain ⟨km, old, hkm, hm, hmA⟩ := mGet (I := J) (m := v) ⟨h0, hv⟩
    have hml := (List.getElem?_eq_some_iff.1 hm).1
    obtain ⟨bm, om, em, cm⟩ := hr.msA hml
    have hmv : J.ms[km] = old := (List.getElem?_eq_some_iff.1 hm).2
    rw [hmv] at cm
    have cm0 : Cell B H bm (om + km * 4) (.int .i64 old.a) := cm.cell (j := 0) rfl
    obtain ⟨at_, oc_, kc_, ow_, kw_, om_, km_, op_, kp_, ws_⟩ := a
    simp only at ep em
    subst ep em
    rw [hmA]
    by_cases h3 : old.a = 3
    · rw [decide_eq_true h0, decide_eq_true h3]
      refine fn_intro 24 Tryz.func52 rfl rfl rfl ?_
      refine walk ?_
      refine s_box rfl rfl rfl ?_
      intro b2
      refine walk ?_
      (refine wp_draw [] (.look 0 (.look 1 (.look 2 (.look 3 (.look 4 (.look 5 (.look 6 (.look 7 (.look 8 (.look 9 (.look 10 (.look 11 (.look 12 (.look 13 (.look 14 (.look 15 (.look 16 (.look 17 (.look 18 (.look 19 .nil)))))))))))))))))))) (by kernel_rfl) ?_; refine dwP ?_; refine dwL ?_; refine dwP ?_; (apply dw_pure; (· exact rfl); (· exact rfl); (· (intro G; (apply s_indexAddr (j := kp) (o' := op + kp); (· exact rfl); (· exact rfl); (· omega); (· omega); (· omega); (· exact rfl)); exact looked))); refine dwL ?_; refine dwP ?_; refine dwP ?_; refine dwP ?_; refine dwL ?_; refine dwP ?_; refine dwL ?_; refine dwP ?_; (apply dw_pure; (· exact rfl); (· exact rfl); (· (intro G; (first | (refine step_wanted rfl rfl ?_; (apply s_indexAddr (j := kp) (o' := op + kp); (· exact rfl); (· exact rfl); (· omega); (· omega); (· omega); (· exact rfl))) | skip); exact looked))); refine dwL ?_; (apply dw_pure; (· exact rfl); (· exact rfl); (· (intro G; (first | (refine step_wanted rfl rfl ?_; (apply s_indexAddr (j := km) (o' := om + km * 4); (· exact rfl); (· exact rfl); (· omega); (· omega); (· omega); (· exact rfl))) | skip); exact looked))); refine dwP ?_; refine dwL ?_; refine dwP ?_; refine dwP ?_; refine dwP ?_; refine dw_nil ?_)
      refine walk ?_
      (first | (apply retRD1 (G := H) (.inr rfl) rfl; (· first | (refine rv_tmp (v := .bool _) rfl) | exact rv_tmp rfl); (· exact Ent.auto)) | (apply retRD1 (G := H) (.inl rfl) rfl; (· first | (refine rv_tmp (v := .bool _) rfl) | exact rv_tmp rfl); (· exact Ent.auto)))
      exact ⟨Ent.refl _, rfl⟩
    · rw [decide_eq_true h0, decide_eq_false h3]
      refine fn_intro 24 Tryz.func52 rfl rfl rfl ?_
      refine walk ?_
      refine s_box rfl rfl rfl ?_
      intro b2
      refine walk ?_
      (refine wp_draw [] (.look 0 (.look 1 (.look 2 (.look 3 (.look 4 (.look 5 (.look 6 (.look 7 (.look 8 (.look 9 (.look 10 (.look 11 (.look 12 (.look 13 (.look 14 (.look 15 (.look 16 (.look 17 (.look 18 (.look 19 .nil)))))))))))))))))))) (by kernel_rfl) ?_; refine dwP ?_; refine dwL ?_; refine dwP ?_; (apply dw_pure; (· exact rfl); (· exact rfl); (· (intro G; (apply s_indexAddr (j := kp) (o' := op + kp); (· exact rfl); (· exact rfl); (· omega); (· omega); (· omega); (· exact rfl)); exact looked))); refine dwL ?_; refine dwP ?_; refine dwP ?_; refine dwP ?_; refine dwL ?_; refine dwP ?_; refine dwL ?_; refine dwP ?_; (apply dw_pure; (· exact rfl); (· exact rfl); (· (intro G; (first | (refine step_wanted rfl rfl ?_; (apply s_indexAddr (j := kp) (o' := op + kp); (· exact rfl); (· exact rfl); (· omega); (· omega); (· omega); (· exact rfl))) | skip); exact looked))); refine dwL ?_; (apply dw_pure; (· exact rfl); (· exact rfl); (· (intro G; (first | (refine step_wanted rfl rfl ?_; (apply s_indexAddr (j := km) (o' := om + km * 4); (· exact rfl); (· exact rfl); (· omega); (· omega); (· omega); (· exact rfl))) | skip); exact looked))); refine dwP ?_; refine dwL ?_; refine dwP ?_; refine dwP ?_; refine dwP ?_; refine dw_nil ?_)
      refine walk ?_
      (first | (apply retRD1 (G := H) (.inr rfl) rfl; (· first | (refine rv_tmp (v := .bool _) rfl) | exact rv_tmp rfl); (· exact Ent.auto)) | (apply retRD1 (G := H) (.inl rfl) rfl; (· first | (refine rv_tmp (v := .bool _) rfl) | exact rv_tmp rfl); (· exact Ent.auto)))
      exact ⟨Ent.refl _, rfl⟩
  · rw [decide_eq_false h0, Bool.false_and]
    obtain ⟨km, om, _⟩ : ∃ (km om : Nat), km = om := ⟨0, 0, rfl⟩
    obtain ⟨at_, oc_, kc_, ow_, kw_, om_, km_, op_, kp_, ws_⟩ := a
    simp only at ep
    subst ep
    refine fn_intro 24 Tryz.func52 rfl rfl rfl ?_
    refine walk ?_
    refine s_box rfl rfl rfl ?_
    intro b2
    refine walk ?_
    (refine wp_draw [] (.look 0 (.look 1 (.look 2 (.look 3 (.look 4 (.look 5 (.look 6 (.look 7 (.look 8 (.look 9 (.look 10 (.look 11 (.look 12 (.look 13 (.look 14 (.look 15 (.look 16 (.look 17 (.look 18 (.look 19 .nil)))))))))))))))))))) (by kernel_rfl) ?_; refine dwP ?_; refine dwL ?_; refine dwP ?_; (apply dw_pure; (· exact rfl); (· exact rfl); (· (intro G; (apply s_indexAddr (j := kp) (o' := op + kp); (· exact rfl); (· exact rfl); (· omega); (· omega); (· omega); (· exact rfl)); exact looked))); refine dwL ?_; refine dwP ?_; refine dwP ?_; refine dwP ?_; refine dwL ?_; refine dwP ?_; refine dwL ?_; refine dwP ?_; (apply dw_pure; (· exact rfl); (· exact rfl); (· (intro G; (first | (refine step_wanted rfl rfl ?_; (apply s_indexAddr (j := kp) (o' := op + kp); (· exact rfl); (· exact rfl); (· omega); (· omega); (· omega); (· exact rfl))) | skip); exact looked))); refine dwL ?_; (apply dw_pure; (· exact rfl); (· exact rfl); (· (intro G; (first | (refine step_wanted rfl rfl ?_; (apply s_indexAddr (j := km) (o' := om + km * 4); (· exact rfl); (· exact rfl); (· omega); (· omega); (· omega); (· exact rfl))) | skip); exact looked))); refine dwP ?_; refine dwL ?_; refine dwP ?_; refine dwP ?_; refine dwP ?_; refine dw_nil ?_)
    refine walk ?_
    (first | (apply retRD1 (G := H) (.inr rfl) rfl; (· first | (refine rv_tmp (v := .bool _) rfl) | exact rv_tmp rfl); (· exact Ent.auto)) | (apply retRD1 (G := H) (.inl rfl) rfl; (· first | (refine rv_tmp (v := .bool _) rfl) | exact rv_tmp rfl); (· exact Ent.auto)))
    exact ⟨Ent.refl _, rfl⟩
end
end Go.Proofs.YtlhnmbajbhaaoaaGreat
namespace Go.Proofs.YtlhnmbajbhaaoaaGreat
open Go Go.SL
set_option linter.unusedSimpArgs false
set_option linter.unusedVariables false
set_option maxRecDepth 10000
set_option maxHeartbeats 8000000
attribute [local irreducible] WP WPL QSeq QBlk QRet Does Cell Cells Rd Mine Ent Aside RV Yield TabAt SemAt IdeAt
section
variable {B : World} {H F G : HProp} {J : Ide} {a : RA} {n : Nt} {K : Int} {cnt : List Int}
theorem srch_of (h : Inv J cnt) {k : Nat} {old : Mc} (hk : J.ms[k]? = some old) (hA : J.mAt n.m = old) : searchesB J n = (decide (old.a = 1) && decide (old.p = n.p)) := by
  unfold searchesB
  rw [hA]
  have mi := (h.pp.mi k old hk).1
  have h1 := mi.g
  have h2 := mi.ga
  by_cases e1 : old.a = 1
  · have : old.g = -1 := by omega
    simp [e1, this]
  · simp [e1]
theorem rMay (hr : RI B H J a) (ok : J.ok K) (h : Inv J cnt) : Does Tryz.prog B 22 [rfV J a, noteV n] H fun r H' => H' = H ∧ r = .bool (mayB J n) := by
  refine Does.frame0 ?_
  have hml := ok.ml
  have hpl := ok.pl
  have htl := ok.tl
  have hsl := ok.sl
  have hcc := ok.c
  obtain ⟨_, c1, c2, c3, c4, c5, c6, _⟩ := hcc
  have hlt16 : J.ms.length ≤ 16 := by omega
  have hmB : mayB J n = ((decide (1 ≤ n.kind ∧ n.kind ≤ 16) && rightB J.c n) && mayK J n) := by unfold mayB; rw [Bool.and_assoc]
  rw [hmB]
  cases hR : (decide (1 ≤ n.kind ∧ n.kind ≤ 16) && rightB J.c n) with
  | false =>
    rw [Bool.false_and]
    refine fn_intro 249 Tryz.func22 rfl rfl rfl ?_
    refine walk ?_
    refine s_box rfl rfl rfl ?_
    intro b2
    refine walk ?_
    refine s_box (cs := nv n) rfl rfl rfl ?_
    intro b3
    refine walk ?_
    refine s_call rfl (rRight (J := J) (n := n)) rfl ?_
    rintro _ _ ⟨e_, rfl⟩
    obtain rfl := e_.symm
    rw [hR]
    refine walk ?_
    (first | (apply retRD1 (G := H) (.inr rfl) rfl; (· first | (refine rv_tmp (v := .bool _) rfl) | exact rv_tmp rfl); (· exact Ent.auto)) | (apply retRD1 (G := H) (.inl rfl) rfl; (· first | (refine rv_tmp (v := .bool _) rfl) | exact rv_tmp rfl); (· exact Ent.auto)))
    exact ⟨Ent.refl _, rfl⟩
  | true =>
  rw [Bool.true_and]
  have hR' := hR
  rw [Bool.and_eq_true, decide_eq_true_eq] at hR'
  obtain ⟨hk16, hrt⟩ := hR'
  obtain ⟨rg, rp, rm, rx⟩ := right_of hrt
  by_cases hm0 : n.m < 0
  · have hk2 : n.kind = 15 ∨ n.kind = 16 := by
      rcases kinds_or hk16 with e | e | e | e | e | e | e | e | e | e | e | e | e | e | e | e <;> first | (left; exact e) | (right; exact e) | (exfalso; rw [e] at rm; have := rm (by decide); omega)
    rcases hk2 with hk | hk
    · have hp := rp (by rw [hk]; decide)
      have hpp : 0 ≤ n.p ∧ n.p < J.ps.length := by omega
      have hv : J.pAt n.p < J.ms.length := by
        obtain ⟨kp, v, e, hkp, hA⟩ := pGet (I := J) hpp
        rw [hA]
        have := ok.pm v (List.mem_of_getElem? hkp)
        omega
      have em : mayK J n = J.kept n.p := by unfold mayK; simp [hk]
      rw [em]
      refine fn_intro 249 Tryz.func22 rfl rfl rfl ?_
      refine walk ?_
      refine s_box rfl rfl rfl ?_
      intro b2
      refine walk ?_
      refine s_box (cs := nv n) rfl rfl rfl ?_
      intro b3
      refine walk ?_
      refine s_call rfl (rRight (J := J) (n := n)) rfl ?_
      rintro _ _ ⟨e_, rfl⟩
      obtain rfl := e_.symm
      rw [hR]
      refine walk ?_
      (refine s_build (cs := [.int .i64 0, .int .i64 0, .int .i64 0, .int .i64 0]) ?_ rfl ?_; (· kernel_rfl))
      refine walk ?_
      refine s_alloc rfl ?_
      intro b5
      refine walk ?_
      refine s_storeV (vs := [.int .i64 0, .int .i64 0, .int .i64 0, .int .i64 0]) rfl rfl rfl rfl rfl ?_
      refine walk ?_
      refine s_call rfl (rKept (p := n.p) (hr.ent InH.ent) hpp hv) rfl ?_
      rintro _ _ ⟨e_, rfl⟩
      obtain rfl := e_.symm
      refine walk ?_
      (first | (apply retRD1 (G := H) (.inr rfl) rfl; (· first | (refine rv_tmp (v := .bool _) rfl) | exact rv_tmp rfl); (· exact Ent.auto)) | (apply retRD1 (G := H) (.inl rfl) rfl; (· first | (refine rv_tmp (v := .bool _) rfl) | exact rv_tmp rfl); (· exact Ent.auto)))
      exact ⟨Ent.refl _, rfl⟩
    · have em : mayK J n = true := by unfold mayK; simp [hk]
      rw [em]
      refine fn_intro 249 Tryz.func22 rfl rfl rfl ?_
      refine walk ?_
      refine s_box rfl rfl rfl ?_
      intro b2
      refine walk ?_
      refine s_box (cs := nv n) rfl rfl rfl ?_
      intro b3
      refine walk ?_
      refine s_call rfl (rRight (J := J) (n := n)) rfl ?_
      rintro _ _ ⟨e_, rfl⟩
      obtain rfl := e_.symm
      rw [hR]
      refine walk ?_
      (refine s_build (cs := [.int .i64 0, .int .i64 0, .int .i64 0, .int .i64 0]) ?_ rfl ?_; (· kernel_rfl))
      refine walk ?_
      refine s_alloc rfl ?_
      intro b5
      refine walk ?_
      refine s_storeV (vs := [.int .i64 0, .int .i64 0, .int .i64 0, .int .i64 0]) rfl rfl rfl rfl rfl ?_
      refine walk ?_
      (first | (apply retRD1 (G := H) (.inr rfl) rfl; (· first | (refine rv_tmp (v := .bool _) rfl) | exact rv_tmp rfl); (· exact Ent.auto)) | (apply retRD1 (G := H) (.inl rfl) rfl; (· first | (refine rv_tmp (v := .bool _) rfl) | exact rv_tmp rfl); (· exact Ent.auto)))
      exact ⟨Ent.refl _, rfl⟩
  · have hk14 : n.kind ≤ 14 := by
      rcases kinds_or hk16 with e | e | e | e | e | e | e | e | e | e | e | e | e | e | e | e <;> first | omega | skip
      · exfalso
        have hn : n.m = -1 := by
          unfold rightB at hrt
          rw [e] at hrt
          simp only [Bool.and_eq_true] at hrt
          have := hrt.2.2.1
          rw [show decide ((109 : UInt8) ∈ fK 15) = false by decide] at this
          simpa [fieldB] using this
        omega
      · exfalso
        have hn : n.m = -1 := by
          unfold rightB at hrt
          rw [e] at hrt
          simp only [Bool.and_eq_true] at hrt
          have := hrt.2.2.1
          rw [show decide ((109 : UInt8) ∈ fK 16) = false by decide] at this
          simpa [fieldB] using this
        omega
    have hmm : 0 ≤ n.m ∧ n.m < J.c.m := by
      have : (109 : UInt8) ∈ fK n.kind := by
        rcases kinds_or hk16 with e | e | e | e | e | e | e | e | e | e | e | e | e | e | e | e <;> first | (rw [e]; decide) | omega
      exact rm this
    obtain ⟨k, old, hmk, hk, hA⟩ := mGet (I := J) (m := n.m) (by omega)
    have hkl := (List.getElem?_eq_some_iff.1 hk).1
    have hkv : J.ms[k] = old := (List.getElem?_eq_some_iff.1 hk).2
    obtain ⟨bm, om, em, cm⟩ := hr.msA hkl
    rw [hkv] at cm
    have mi := (h.pp.mi k old hk).1
    have hsr := srch_of (n := n) h hk hA
    have hru : runsB J n = (decide (old.a = 2) && (decide (old.p = n.p) && decide (old.g = n.g))) := by unfold runsB; rw [hA]; by_cases e1 : old.a = 2 <;> by_cases e2 : old.p = n.p <;> by_cases e3 : old.g = n.g <;> simp [e1, e2, e3]
    have hca : callsB J n = (decide (old.a = 3) && decide (old.g = n.g)) := by unfold callsB; rw [hA]
    obtain ⟨⟨o1_, k1_, o2_, k2_, o3_, k3_⟩, oc_, kc_, ow_, kw_, om_, km_, op_, kp_, ws_⟩ := a
    simp only at em
    subst em
    refine fn_intro 249 Tryz.func22 rfl rfl rfl ?_
    refine walk ?_
    refine s_box rfl rfl rfl ?_
    intro b2
    refine walk ?_
    refine s_box (cs := nv n) rfl rfl rfl ?_
    intro b3
    refine walk ?_
    refine s_call rfl (rRight (J := J) (n := n)) rfl ?_
    rintro _ _ ⟨e_, rfl⟩
    obtain rfl := e_.symm
    rw [hR]
    refine walk ?_
    (refine s_build (cs := [.int .i64 0, .int .i64 0, .int .i64 0, .int .i64 0]) ?_ rfl ?_; (· kernel_rfl))
    refine walk ?_
    refine s_alloc rfl ?_
    intro b5
    refine walk ?_
    refine s_storeV (vs := [.int .i64 0, .int .i64 0, .int .i64 0, .int .i64 0]) rfl rfl rfl rfl rfl ?_
    refine walk ?_
    (apply s_indexAddr (j := k) (o' := om + k * 4); (· exact rfl); (· exact rfl); (· omega); (· omega); (· omega); (· exact rfl))
    refine walk ?_
    refine s_storeV (vs := mcC old) rfl rfl rfl rfl rfl ?_
    refine walkQ ?_
    refine wp_cut_here (α := Unit) [6, 23, 24, 25, 26, 27, 28, 29, 30, 31, 32, 33, 34, 35, 36, 37, 38, 39] (fun _ => [(6, .bool (runsB J n))]) (fun _ => blk b5 (mcC old) 86 + (blk b3 (nv n) 57 + (blk b2 (rfC J ⟨⟨o1_, k1_, o2_, k2_, o3_, k3_⟩, oc_, kc_, ow_, kw_, some ⟨bm, om, none⟩, km_, op_, kp_, ws_⟩) 35 + H))) (fun _ => True) ?_ ?_
    · rw [hru]
      by_cases e1 : old.a = 2
      · rw [decide_eq_true e1]
        by_cases e2 : old.p = n.p
        · rw [decide_eq_true e2]
          by_cases e3 : old.g = n.g
          · rw [decide_eq_true e3]
            refine walk ?_
            exact ⟨(), asided, agreed, Ent.auto, trivial⟩
          · rw [decide_eq_false e3]
            refine walk ?_
            exact ⟨(), asided, agreed, Ent.auto, trivial⟩
        · rw [decide_eq_false e2, Bool.false_and]
          refine walk ?_
          exact ⟨(), asided, agreed, Ent.auto, trivial⟩
      · rw [decide_eq_false e1, Bool.false_and]
        refine walk ?_
        exact ⟨(), asided, agreed, Ent.auto, trivial⟩
    rintro ⟨⟩ f6 _
    simp only [putAll]
    refine walkQ ?_
    refine wp_cut_here (α := Unit) [7, 40, 41, 42, 43, 44, 45, 46, 47, 48, 49] (fun _ => [(7, .bool (searchesB J n))]) (fun _ => blk b5 (mcC old) 86 + (blk b3 (nv n) 57 + (blk b2 (rfC J ⟨⟨o1_, k1_, o2_, k2_, o3_, k3_⟩, oc_, kc_, ow_, kw_, some ⟨bm, om, none⟩, km_, op_, kp_, ws_⟩) 35 + H))) (fun _ => True) ?_ ?_
    · rw [hsr]
      by_cases e1 : old.a = 1
      · rw [decide_eq_true e1]
        by_cases e2 : old.p = n.p
        · rw [decide_eq_true e2]
          refine walk ?_
          exact ⟨(), asided, agreed, Ent.auto, trivial⟩
        · rw [decide_eq_false e2]
          refine walk ?_
          exact ⟨(), asided, agreed, Ent.auto, trivial⟩
      · rw [decide_eq_false e1, Bool.false_and]
        refine walk ?_
        exact ⟨(), asided, agreed, Ent.auto, trivial⟩
    rintro ⟨⟩ f7 _
    simp only [putAll]
    refine walkQ ?_
    refine wp_cut_here (α := Unit) [8, 50, 51, 52, 53, 54, 55, 56, 57, 58, 59] (fun _ => [(8, .bool (callsB J n))]) (fun _ => blk b5 (mcC old) 86 + (blk b3 (nv n) 57 + (blk b2 (rfC J ⟨⟨o1_, k1_, o2_, k2_, o3_, k3_⟩, oc_, kc_, ow_, kw_, some ⟨bm, om, none⟩, km_, op_, kp_, ws_⟩) 35 + H))) (fun _ => True) ?_ ?_
    · rw [hca]
      by_cases e1 : old.a = 3
      · rw [decide_eq_true e1]
        by_cases e2 : old.g = n.g
        · rw [decide_eq_true e2]
          refine walk ?_
          exact ⟨(), asided, agreed, Ent.auto, trivial⟩
        · rw [decide_eq_false e2]
          refine walk ?_
          exact ⟨(), asided, agreed, Ent.auto, trivial⟩
      · rw [decide_eq_false e1, Bool.false_and]
        refine walk ?_
        exact ⟨(), asided, agreed, Ent.auto, trivial⟩
    rintro ⟨⟩ f8 _
    simp only [putAll]
    clear hru hsr hca
    have hx4 : ∀ kk : Int, n.kind = kk → (120 : UInt8) ∈ fK kk → 0 ≤ n.x ∧ n.x < xK J.c kk := fun kk e hm => by rw [e] at rx; exact rx hm
    have pG : (112 : UInt8) ∈ fK n.kind → ∃ (kp : Nat) (v : Int) (bp op : Nat), n.p = (kp : Int) ∧ kp < J.ps.length ∧ J.pAt n.p = v ∧ op_ = some ⟨bp, op, none⟩ ∧ Cell B H bp (op + kp) (.int .i64 v) := by
      intro hm
      obtain ⟨kp, v, e, hkp, hB⟩ := pGet (I := J) (p := n.p) (by have := rp hm; omega)
      have hl := (List.getElem?_eq_some_iff.1 hkp).1
      obtain ⟨bp, op, ep, cp⟩ := hr.psA hl
      rw [(List.getElem?_eq_some_iff.1 hkp).2] at cp
      exact ⟨kp, v, bp, op, e, hl, hB, ep, cp⟩
    rcases (show n.kind = 1 ∨ n.kind = 2 ∨ n.kind = 3 ∨ n.kind = 4 ∨ n.kind = 5 ∨ n.kind = 6 ∨ n.kind = 7 ∨ n.kind = 8 ∨ n.kind = 9 ∨ n.kind = 10 ∨ n.kind = 11 ∨ n.kind = 12 ∨ n.kind = 13 ∨ n.kind = 14 by omega) with hk | hk | hk | hk | hk | hk | hk | hk | hk | hk | hk | hk | hk | hk
    · skip
      have em : mayK J n = (decide ((J.mAt n.m).a = 2) && (decide ((J.mAt n.m).g = n.x) && decide (J.tab.row[0]? = some n.g))) := by unfold mayK; simp [hk]
      rw [em]
      rw [hA]
      obtain ⟨R, hRow⟩ : ∃ R, J.tab.row = R := ⟨_, rfl⟩
      have hrr := hr.rwR
      rw [hRow] at hrr ⊢
      cases R with
      | nil =>
        simp only [List.length_nil] at hrr
        have hRL : J.tab.row.length = 0 := by rw [hRow]; rfl
        rw [show decide (([] : List Int)[0]? = some n.g) = false by simp]
        by_cases e1 : old.a = 2
        · rw [decide_eq_true e1]
          by_cases e2 : old.g = n.x
          · rw [decide_eq_true e2]
            refine walk ?_
            (refine wp_draw [] (.look 0 (.look 1 (.look 2 (.look 3 (.look 4 (.look 5 (.look 6 (.look 7 (.look 8 (.look 9 (.look 10 (.look 11 (.look 12 (.look 13 (.look 14 (.look 15 (.look 16 (.look 17 (.look 18 (.look 19 (.look 20 (.look 21 (.look 22 (.look 23 (.look 24 (.look 25 (.look 26 (.look 27 .nil)))))))))))))))))))))))))))) (by kernel_rfl) ?_; refine dwP ?_; refine dwL ?_; refine dwP ?_; refine dwP ?_; refine dwP ?_; refine dwL ?_; refine dwP ?_; refine dwL ?_; refine dwP ?_; refine dwP ?_; refine dwP ?_; refine dwP ?_; refine dwP ?_; refine dwL ?_; refine dwP ?_; refine dwP ?_; refine dwP ?_; refine dwP ?_; refine dwP ?_; refine dwP ?_; refine dwL ?_; (apply dw_pure; (· exact rfl); (· exact rfl); (· (intro G; (first | (refine step_wanted rfl rfl ?_; (apply s_indexAddr (j := 0) (o' := oR); (· exact rfl); (· exact rfl); (· omega); (· omega); (· omega); (· exact rfl))) | (apply s_indexAddr (j := 0) (o' := oR); (· exact rfl); (· exact rfl); (· omega); (· omega); (· omega); (· exact rfl)) | skip); exact looked))); refine dwL ?_; refine dwP ?_; refine dwL ?_; refine dwP ?_; refine dwP ?_; refine dwP ?_; refine dw_nil ?_)
            refine walk ?_
            (first | (apply retRD1 (G := H) (.inr rfl) rfl; (· first | (refine rv_tmp (v := .bool _) rfl) | exact rv_tmp rfl); (· exact Ent.auto)) | (apply retRD1 (G := H) (.inl rfl) rfl; (· first | (refine rv_tmp (v := .bool _) rfl) | exact rv_tmp rfl); (· exact Ent.auto)))
            exact ⟨Ent.refl _, rfl⟩
          · rw [decide_eq_false e2]
            refine walk ?_
            (refine wp_draw [] (.look 0 (.look 1 (.look 2 (.look 3 (.look 4 (.look 5 (.look 6 (.look 7 (.look 8 (.look 9 (.look 10 (.look 11 (.look 12 (.look 13 (.look 14 (.look 15 (.look 16 (.look 17 (.look 18 (.look 19 (.look 20 (.look 21 (.look 22 (.look 23 (.look 24 (.look 25 (.look 26 (.look 27 .nil)))))))))))))))))))))))))))) (by kernel_rfl) ?_; refine dwP ?_; refine dwL ?_; refine dwP ?_; refine dwP ?_; refine dwP ?_; refine dwL ?_; refine dwP ?_; refine dwL ?_; refine dwP ?_; refine dwP ?_; refine dwP ?_; refine dwP ?_; refine dwP ?_; refine dwL ?_; refine dwP ?_; refine dwP ?_; refine dwP ?_; refine dwP ?_; refine dwP ?_; refine dwP ?_; refine dwL ?_; (apply dw_pure; (· exact rfl); (· exact rfl); (· (intro G; (first | (refine step_wanted rfl rfl ?_; (apply s_indexAddr (j := 0) (o' := oR); (· exact rfl); (· exact rfl); (· omega); (· omega); (· omega); (· exact rfl))) | (apply s_indexAddr (j := 0) (o' := oR); (· exact rfl); (· exact rfl); (· omega); (· omega); (· omega); (· exact rfl)) | skip); exact looked))); refine dwL ?_; refine dwP ?_; refine dwL ?_; refine dwP ?_; refine dwP ?_; refine dwP ?_; refine dw_nil ?_)
            refine walk ?_
            (first | (apply retRD1 (G := H) (.inr rfl) rfl; (· first | (refine rv_tmp (v := .bool _) rfl) | exact rv_tmp rfl); (· exact Ent.auto)) | (apply retRD1 (G := H) (.inl rfl) rfl; (· first | (refine rv_tmp (v := .bool _) rfl) | exact rv_tmp rfl); (· exact Ent.auto)))
            exact ⟨Ent.refl _, rfl⟩
        · rw [decide_eq_false e1, Bool.false_and]
          refine walk ?_
          (refine wp_draw [] (.look 0 (.look 1 (.look 2 (.look 3 (.look 4 (.look 5 (.look 6 (.look 7 (.look 8 (.look 9 (.look 10 (.look 11 (.look 12 (.look 13 (.look 14 (.look 15 (.look 16 (.look 17 (.look 18 (.look 19 (.look 20 (.look 21 (.look 22 (.look 23 (.look 24 (.look 25 (.look 26 (.look 27 .nil)))))))))))))))))))))))))))) (by kernel_rfl) ?_; refine dwP ?_; refine dwL ?_; refine dwP ?_; refine dwP ?_; refine dwP ?_; refine dwL ?_; refine dwP ?_; refine dwL ?_; refine dwP ?_; refine dwP ?_; refine dwP ?_; refine dwP ?_; refine dwP ?_; refine dwL ?_; refine dwP ?_; refine dwP ?_; refine dwP ?_; refine dwP ?_; refine dwP ?_; refine dwP ?_; refine dwL ?_; (apply dw_pure; (· exact rfl); (· exact rfl); (· (intro G; (first | (refine step_wanted rfl rfl ?_; (apply s_indexAddr (j := 0) (o' := oR); (· exact rfl); (· exact rfl); (· omega); (· omega); (· omega); (· exact rfl))) | (apply s_indexAddr (j := 0) (o' := oR); (· exact rfl); (· exact rfl); (· omega); (· omega); (· omega); (· exact rfl)) | skip); exact looked))); refine dwL ?_; refine dwP ?_; refine dwL ?_; refine dwP ?_; refine dwP ?_; refine dwP ?_; refine dw_nil ?_)
          refine walk ?_
          (first | (apply retRD1 (G := H) (.inr rfl) rfl; (· first | (refine rv_tmp (v := .bool _) rfl) | exact rv_tmp rfl); (· exact Ent.auto)) | (apply retRD1 (G := H) (.inl rfl) rfl; (· first | (refine rv_tmp (v := .bool _) rfl) | exact rv_tmp rfl); (· exact Ent.auto)))
          exact ⟨Ent.refl _, rfl⟩
      | cons y t =>
        obtain ⟨bR, oR, eR, hcR⟩ := rd_one (k := 0) hrr (v := .int .i64 y) rfl
        simp only at eR
        subst eR
        have hRL : J.tab.row.length = t.length + 1 := by rw [hRow]; rfl
        by_cases e1 : old.a = 2
        · rw [decide_eq_true e1]
          by_cases e2 : old.g = n.x
          · rw [decide_eq_true e2]
            by_cases e3 : y = n.g
            · rw [show decide ((y :: t)[0]? = some n.g) = true by simp [e3]]
              refine walk ?_
              (refine wp_draw [] (.look 0 (.look 1 (.look 2 (.look 3 (.look 4 (.look 5 (.look 6 (.look 7 (.look 8 (.look 9 (.look 10 (.look 11 (.look 12 (.look 13 (.look 14 (.look 15 (.look 16 (.look 17 (.look 18 (.look 19 (.look 20 (.look 21 (.look 22 (.look 23 (.look 24 (.look 25 (.look 26 (.look 27 .nil)))))))))))))))))))))))))))) (by kernel_rfl) ?_; refine dwP ?_; refine dwL ?_; refine dwP ?_; refine dwP ?_; refine dwP ?_; refine dwL ?_; refine dwP ?_; refine dwL ?_; refine dwP ?_; refine dwP ?_; refine dwP ?_; refine dwP ?_; refine dwP ?_; refine dwL ?_; refine dwP ?_; refine dwP ?_; refine dwP ?_; refine dwP ?_; refine dwP ?_; refine dwP ?_; refine dwL ?_; (apply dw_pure; (· exact rfl); (· exact rfl); (· (intro G; (first | (refine step_wanted rfl rfl ?_; (apply s_indexAddr (j := 0) (o' := oR); (· exact rfl); (· exact rfl); (· omega); (· omega); (· omega); (· exact rfl))) | (apply s_indexAddr (j := 0) (o' := oR); (· exact rfl); (· exact rfl); (· omega); (· omega); (· omega); (· exact rfl)) | skip); exact looked))); refine dwL ?_; refine dwP ?_; refine dwL ?_; refine dwP ?_; refine dwP ?_; refine dwP ?_; refine dw_nil ?_)
              refine walk ?_
              (first | (apply retRD1 (G := H) (.inr rfl) rfl; (· first | (refine rv_tmp (v := .bool _) rfl) | exact rv_tmp rfl); (· exact Ent.auto)) | (apply retRD1 (G := H) (.inl rfl) rfl; (· first | (refine rv_tmp (v := .bool _) rfl) | exact rv_tmp rfl); (· exact Ent.auto)))
              exact ⟨Ent.refl _, rfl⟩
            · rw [show decide ((y :: t)[0]? = some n.g) = false by simp [e3]]
              refine walk ?_
              (refine wp_draw [] (.look 0 (.look 1 (.look 2 (.look 3 (.look 4 (.look 5 (.look 6 (.look 7 (.look 8 (.look 9 (.look 10 (.look 11 (.look 12 (.look 13 (.look 14 (.look 15 (.look 16 (.look 17 (.look 18 (.look 19 (.look 20 (.look 21 (.look 22 (.look 23 (.look 24 (.look 25 (.look 26 (.look 27 .nil)))))))))))))))))))))))))))) (by kernel_rfl) ?_; refine dwP ?_; refine dwL ?_; refine dwP ?_; refine dwP ?_; refine dwP ?_; refine dwL ?_; refine dwP ?_; refine dwL ?_; refine dwP ?_; refine dwP ?_; refine dwP ?_; refine dwP ?_; refine dwP ?_; refine dwL ?_; refine dwP ?_; refine dwP ?_; refine dwP ?_; refine dwP ?_; refine dwP ?_; refine dwP ?_; refine dwL ?_; (apply dw_pure; (· exact rfl); (· exact rfl); (· (intro G; (first | (refine step_wanted rfl rfl ?_; (apply s_indexAddr (j := 0) (o' := oR); (· exact rfl); (· exact rfl); (· omega); (· omega); (· omega); (· exact rfl))) | (apply s_indexAddr (j := 0) (o' := oR); (· exact rfl); (· exact rfl); (· omega); (· omega); (· omega); (· exact rfl)) | skip); exact looked))); refine dwL ?_; refine dwP ?_; refine dwL ?_; refine dwP ?_; refine dwP ?_; refine dwP ?_; refine dw_nil ?_)
              refine walk ?_
              (first | (apply retRD1 (G := H) (.inr rfl) rfl; (· first | (refine rv_tmp (v := .bool _) rfl) | exact rv_tmp rfl); (· exact Ent.auto)) | (apply retRD1 (G := H) (.inl rfl) rfl; (· first | (refine rv_tmp (v := .bool _) rfl) | exact rv_tmp rfl); (· exact Ent.auto)))
              exact ⟨Ent.refl _, rfl⟩
          · rw [decide_eq_false e2, Bool.false_and]
            refine walk ?_
            (refine wp_draw [] (.look 0 (.look 1 (.look 2 (.look 3 (.look 4 (.look 5 (.look 6 (.look 7 (.look 8 (.look 9 (.look 10 (.look 11 (.look 12 (.look 13 (.look 14 (.look 15 (.look 16 (.look 17 (.look 18 (.look 19 (.look 20 (.look 21 (.look 22 (.look 23 (.look 24 (.look 25 (.look 26 (.look 27 .nil)))))))))))))))))))))))))))) (by kernel_rfl) ?_; refine dwP ?_; refine dwL ?_; refine dwP ?_; refine dwP ?_; refine dwP ?_; refine dwL ?_; refine dwP ?_; refine dwL ?_; refine dwP ?_; refine dwP ?_; refine dwP ?_; refine dwP ?_; refine dwP ?_; refine dwL ?_; refine dwP ?_; refine dwP ?_; refine dwP ?_; refine dwP ?_; refine dwP ?_; refine dwP ?_; refine dwL ?_; (apply dw_pure; (· exact rfl); (· exact rfl); (· (intro G; (first | (refine step_wanted rfl rfl ?_; (apply s_indexAddr (j := 0) (o' := oR); (· exact rfl); (· exact rfl); (· omega); (· omega); (· omega); (· exact rfl))) | (apply s_indexAddr (j := 0) (o' := oR); (· exact rfl); (· exact rfl); (· omega); (· omega); (· omega); (· exact rfl)) | skip); exact looked))); refine dwL ?_; refine dwP ?_; refine dwL ?_; refine dwP ?_; refine dwP ?_; refine dwP ?_; refine dw_nil ?_)
            refine walk ?_
            (first | (apply retRD1 (G := H) (.inr rfl) rfl; (· first | (refine rv_tmp (v := .bool _) rfl) | exact rv_tmp rfl); (· exact Ent.auto)) | (apply retRD1 (G := H) (.inl rfl) rfl; (· first | (refine rv_tmp (v := .bool _) rfl) | exact rv_tmp rfl); (· exact Ent.auto)))
            exact ⟨Ent.refl _, rfl⟩
        · rw [decide_eq_false e1, Bool.false_and]
          refine walk ?_
          (refine wp_draw [] (.look 0 (.look 1 (.look 2 (.look 3 (.look 4 (.look 5 (.look 6 (.look 7 (.look 8 (.look 9 (.look 10 (.look 11 (.look 12 (.look 13 (.look 14 (.look 15 (.look 16 (.look 17 (.look 18 (.look 19 (.look 20 (.look 21 (.look 22 (.look 23 (.look 24 (.look 25 (.look 26 (.look 27 .nil)))))))))))))))))))))))))))) (by kernel_rfl) ?_; refine dwP ?_; refine dwL ?_; refine dwP ?_; refine dwP ?_; refine dwP ?_; refine dwL ?_; refine dwP ?_; refine dwL ?_; refine dwP ?_; refine dwP ?_; refine dwP ?_; refine dwP ?_; refine dwP ?_; refine dwL ?_; refine dwP ?_; refine dwP ?_; refine dwP ?_; refine dwP ?_; refine dwP ?_; refine dwP ?_; refine dwL ?_; (apply dw_pure; (· exact rfl); (· exact rfl); (· (intro G; (first | (refine step_wanted rfl rfl ?_; (apply s_indexAddr (j := 0) (o' := oR); (· exact rfl); (· exact rfl); (· omega); (· omega); (· omega); (· exact rfl))) | (apply s_indexAddr (j := 0) (o' := oR); (· exact rfl); (· exact rfl); (· omega); (· omega); (· omega); (· exact rfl)) | skip); exact looked))); refine dwL ?_; refine dwP ?_; refine dwL ?_; refine dwP ?_; refine dwP ?_; refine dwP ?_; refine dw_nil ?_)
          refine walk ?_
          (first | (apply retRD1 (G := H) (.inr rfl) rfl; (· first | (refine rv_tmp (v := .bool _) rfl) | exact rv_tmp rfl); (· exact Ent.auto)) | (apply retRD1 (G := H) (.inl rfl) rfl; (· first | (refine rv_tmp (v := .bool _) rfl) | exact rv_tmp rfl); (· exact Ent.auto)))
          exact ⟨Ent.refl _, rfl⟩
    · skip
      have hg := rg (by rw [hk]; decide)
      obtain ⟨gk, hgk⟩ := Int.eq_ofNat_of_zero_le hg.1
      have hgl : gk < J.tab.all.length := by omega
      obtain ⟨bS, oS, eS, cS⟩ := hr.stA hgl
      simp only at eS
      subst eS
      obtain ⟨st, hst⟩ : ∃ st, J.tab.all[gk].1 = st := ⟨_, rfl⟩
      rw [hst] at cS
      have hsv : J.stat n.g = st := by
        unfold Ide.stat
        rw [if_pos (by omega), hgk, Int.toNat_natCast, List.getElem?_eq_getElem hgl]
        exact hst
      have em : mayK J n = (searchesB J n && decide (J.stat n.g = 1)) := by unfold mayK; simp [hk]
      rw [em]
      rw [hsv]
      cases hq : searchesB J n with
      | false =>
        rw [Bool.false_and]
        refine walk ?_
        (first | (apply retRD1 (G := H) (.inr rfl) rfl; (· first | (refine rv_tmp (v := .bool _) rfl) | exact rv_tmp rfl); (· exact Ent.auto)) | (apply retRD1 (G := H) (.inl rfl) rfl; (· first | (refine rv_tmp (v := .bool _) rfl) | exact rv_tmp rfl); (· exact Ent.auto)))
        exact ⟨Ent.refl _, rfl⟩
      | true =>
        by_cases e1 : st = 1
        · rw [decide_eq_true e1]
          refine walk ?_
          (apply s_indexAddr (j := gk) (o' := oS + gk); (· exact rfl); (· exact rfl); (· omega); (· omega); (· omega); (· exact rfl))
          refine walk ?_
          (first | (apply retRD1 (G := H) (.inr rfl) rfl; (· first | (refine rv_tmp (v := .bool _) rfl) | exact rv_tmp rfl); (· exact Ent.auto)) | (apply retRD1 (G := H) (.inl rfl) rfl; (· first | (refine rv_tmp (v := .bool _) rfl) | exact rv_tmp rfl); (· exact Ent.auto)))
          exact ⟨Ent.refl _, rfl⟩
        · rw [decide_eq_false e1]
          refine walk ?_
          (apply s_indexAddr (j := gk) (o' := oS + gk); (· exact rfl); (· exact rfl); (· omega); (· omega); (· omega); (· exact rfl))
          refine walk ?_
          (first | (apply retRD1 (G := H) (.inr rfl) rfl; (· first | (refine rv_tmp (v := .bool _) rfl) | exact rv_tmp rfl); (· exact Ent.auto)) | (apply retRD1 (G := H) (.inl rfl) rfl; (· first | (refine rv_tmp (v := .bool _) rfl) | exact rv_tmp rfl); (· exact Ent.auto)))
          exact ⟨Ent.refl _, rfl⟩
    · skip
      have em : mayK J n = (runsB J n) := by unfold mayK; simp [hk]
      rw [em]
      refine walk ?_
      (first | (apply retRD1 (G := H) (.inr rfl) rfl; (· first | (refine rv_tmp (v := .bool _) rfl) | exact rv_tmp rfl); (· exact Ent.auto)) | (apply retRD1 (G := H) (.inl rfl) rfl; (· first | (refine rv_tmp (v := .bool _) rfl) | exact rv_tmp rfl); (· exact Ent.auto)))
      exact ⟨Ent.refl _, rfl⟩
    · skip
      have em : mayK J n = (runsB J n) := by unfold mayK; simp [hk]
      rw [em]
      refine walk ?_
      (first | (apply retRD1 (G := H) (.inr rfl) rfl; (· first | (refine rv_tmp (v := .bool _) rfl) | exact rv_tmp rfl); (· exact Ent.auto)) | (apply retRD1 (G := H) (.inl rfl) rfl; (· first | (refine rv_tmp (v := .bool _) rfl) | exact rv_tmp rfl); (· exact Ent.auto)))
      exact ⟨Ent.refl _, rfl⟩
    · skip
      obtain ⟨j, l, c, hxj, hj4, hj, hro, hcc⟩ := sGet (I := J) hsl (show 0 ≤ n.x ∧ n.x < 4 from hx4 5 hk (by decide))
      obtain ⟨bc, oc, eo, hcl⟩ := hr.cnA hj
      simp only at eo
      subst eo
      have em : mayK J n = (runsB J n && decide (0 < J.count n.x)) := by unfold mayK; simp [hk]
      rw [em]
      rw [hcc]
      cases hq : runsB J n with
      | false =>
        rw [Bool.false_and]
        refine walk ?_
        (first | (apply retRD1 (G := H) (.inr rfl) rfl; (· first | (refine rv_tmp (v := .bool _) rfl) | exact rv_tmp rfl); (· exact Ent.auto)) | (apply retRD1 (G := H) (.inl rfl) rfl; (· first | (refine rv_tmp (v := .bool _) rfl) | exact rv_tmp rfl); (· exact Ent.auto)))
        exact ⟨Ent.refl _, rfl⟩
      | true =>
        by_cases e1 : 0 < c
        · rw [decide_eq_true e1]
          refine walk ?_
          (apply s_indexAddr (j := j) (o' := oc + j); (· exact rfl); (· exact rfl); (· omega); (· omega); (· omega); (· exact rfl))
          refine walk ?_
          (first | (apply retRD1 (G := H) (.inr rfl) rfl; (· first | (refine rv_tmp (v := .bool _) rfl) | exact rv_tmp rfl); (· exact Ent.auto)) | (apply retRD1 (G := H) (.inl rfl) rfl; (· first | (refine rv_tmp (v := .bool _) rfl) | exact rv_tmp rfl); (· exact Ent.auto)))
          exact ⟨Ent.refl _, rfl⟩
        · rw [decide_eq_false e1]
          refine walk ?_
          (apply s_indexAddr (j := j) (o' := oc + j); (· exact rfl); (· exact rfl); (· omega); (· omega); (· omega); (· exact rfl))
          refine walk ?_
          (first | (apply retRD1 (G := H) (.inr rfl) rfl; (· first | (refine rv_tmp (v := .bool _) rfl) | exact rv_tmp rfl); (· exact Ent.auto)) | (apply retRD1 (G := H) (.inl rfl) rfl; (· first | (refine rv_tmp (v := .bool _) rfl) | exact rv_tmp rfl); (· exact Ent.auto)))
          exact ⟨Ent.refl _, rfl⟩
    · skip
      obtain ⟨j, l, c, hxj, hj4, hj, hro, hcc⟩ := sGet (I := J) hsl (show 0 ≤ n.x ∧ n.x < 4 from hx4 6 hk (by decide))
      obtain ⟨bc, oc, eo, hcl⟩ := hr.cnA hj
      simp only at eo
      subst eo
      have em : mayK J n = (runsB J n && decide (J.count n.x = 0)) := by unfold mayK; simp [hk]
      rw [em]
      rw [hcc]
      cases hq : runsB J n with
      | false =>
        rw [Bool.false_and]
        refine walk ?_
        (first | (apply retRD1 (G := H) (.inr rfl) rfl; (· first | (refine rv_tmp (v := .bool _) rfl) | exact rv_tmp rfl); (· exact Ent.auto)) | (apply retRD1 (G := H) (.inl rfl) rfl; (· first | (refine rv_tmp (v := .bool _) rfl) | exact rv_tmp rfl); (· exact Ent.auto)))
        exact ⟨Ent.refl _, rfl⟩
      | true =>
        by_cases e1 : c = 0
        · rw [decide_eq_true e1]
          refine walk ?_
          (apply s_indexAddr (j := j) (o' := oc + j); (· exact rfl); (· exact rfl); (· omega); (· omega); (· omega); (· exact rfl))
          refine walk ?_
          (first | (apply retRD1 (G := H) (.inr rfl) rfl; (· first | (refine rv_tmp (v := .bool _) rfl) | exact rv_tmp rfl); (· exact Ent.auto)) | (apply retRD1 (G := H) (.inl rfl) rfl; (· first | (refine rv_tmp (v := .bool _) rfl) | exact rv_tmp rfl); (· exact Ent.auto)))
          exact ⟨Ent.refl _, rfl⟩
        · rw [decide_eq_false e1]
          refine walk ?_
          (apply s_indexAddr (j := j) (o' := oc + j); (· exact rfl); (· exact rfl); (· omega); (· omega); (· omega); (· exact rfl))
          refine walk ?_
          (first | (apply retRD1 (G := H) (.inr rfl) rfl; (· first | (refine rv_tmp (v := .bool _) rfl) | exact rv_tmp rfl); (· exact Ent.auto)) | (apply retRD1 (G := H) (.inl rfl) rfl; (· first | (refine rv_tmp (v := .bool _) rfl) | exact rv_tmp rfl); (· exact Ent.auto)))
          exact ⟨Ent.refl _, rfl⟩
    · skip
      obtain ⟨j, l, c, hxj, hj4, hj, hro, hcc⟩ := sGet (I := J) hsl (show 0 ≤ n.x ∧ n.x < 4 from hx4 7 hk (by decide))
      obtain ⟨bc, oc, eo, hcl⟩ := hr.cnA hj
      simp only at eo
      subst eo
      have hse := h.se j l c hj
      have em : mayK J n = (runsB J n && (J.first n.x (-1) && decide (J.count n.x < 1073741824))) := by unfold mayK; simp [hk]
      rw [em]
      rw [hcc, show J.first n.x (-1) = decide (l = []) by unfold Ide.first; rw [if_pos (by omega), hro]]
      cases hq : runsB J n with
      | false =>
        rw [Bool.false_and]
        refine walk ?_
        (first | (apply retRD1 (G := H) (.inr rfl) rfl; (· first | (refine rv_tmp (v := .bool _) rfl) | exact rv_tmp rfl); (· exact Ent.auto)) | (apply retRD1 (G := H) (.inl rfl) rfl; (· first | (refine rv_tmp (v := .bool _) rfl) | exact rv_tmp rfl); (· exact Ent.auto)))
        exact ⟨Ent.refl _, rfl⟩
      | true =>
        cases l with
        | nil =>
          rw [show decide (([] : List Int) = []) = true from rfl]
          by_cases e1 : c < 1073741824
          · rw [decide_eq_true e1]
            refine walk ?_
            rw [hxj]
            refine s_call rfl (rFirst (j := j) (hr.ent InH.ent) hj hj4) rfl ?_
            rintro _ _ ⟨e_, rfl⟩
            obtain rfl := e_.symm
            rw [show ([] : List Int).headD (-1) = -1 from rfl]
            refine walk ?_
            (apply s_indexAddr (j := j) (o' := oc + j); (· exact rfl); (· exact rfl); (· omega); (· omega); (· omega); (· exact rfl))
            refine walk ?_
            (first | (apply retRD1 (G := H) (.inr rfl) rfl; (· first | (refine rv_tmp (v := .bool _) rfl) | exact rv_tmp rfl); (· exact Ent.auto)) | (apply retRD1 (G := H) (.inl rfl) rfl; (· first | (refine rv_tmp (v := .bool _) rfl) | exact rv_tmp rfl); (· exact Ent.auto)))
            exact ⟨Ent.refl _, rfl⟩
          · rw [decide_eq_false e1]
            refine walk ?_
            rw [hxj]
            refine s_call rfl (rFirst (j := j) (hr.ent InH.ent) hj hj4) rfl ?_
            rintro _ _ ⟨e_, rfl⟩
            obtain rfl := e_.symm
            rw [show ([] : List Int).headD (-1) = -1 from rfl]
            refine walk ?_
            (apply s_indexAddr (j := j) (o' := oc + j); (· exact rfl); (· exact rfl); (· omega); (· omega); (· omega); (· exact rfl))
            refine walk ?_
            (first | (apply retRD1 (G := H) (.inr rfl) rfl; (· first | (refine rv_tmp (v := .bool _) rfl) | exact rv_tmp rfl); (· exact Ent.auto)) | (apply retRD1 (G := H) (.inl rfl) rfl; (· first | (refine rv_tmp (v := .bool _) rfl) | exact rv_tmp rfl); (· exact Ent.auto)))
            exact ⟨Ent.refl _, rfl⟩
        | cons y t =>
          have hy0 := hse.2.1 y (by simp)
          rw [show decide (y :: t = []) = false by simp, Bool.false_and]
          refine walk ?_
          rw [hxj]
          refine s_call rfl (rFirst (j := j) (hr.ent InH.ent) hj hj4) rfl ?_
          rintro _ _ ⟨e_, rfl⟩
          obtain rfl := e_.symm
          rw [show (y :: t).headD (-1) = y from rfl]
          refine walk ?_
          (first | (apply retRD1 (G := H) (.inr rfl) rfl; (· first | (refine rv_tmp (v := .bool _) rfl) | exact rv_tmp rfl); (· exact Ent.auto)) | (apply retRD1 (G := H) (.inl rfl) rfl; (· first | (refine rv_tmp (v := .bool _) rfl) | exact rv_tmp rfl); (· exact Ent.auto)))
          exact ⟨Ent.refl _, rfl⟩
    · skip
      obtain ⟨j, l, c, hxj, hj4, hj, hro, hcc⟩ := sGet (I := J) hsl (show 0 ≤ n.x ∧ n.x < 4 from hx4 8 hk (by decide))
      obtain ⟨bc, oc, eo, hcl⟩ := hr.cnA hj
      simp only at eo
      subst eo
      have hg := rg (by rw [hk]; decide)
      have em : mayK J n = (decide ((J.mAt n.m).a = 2) && J.first n.x n.g) := by unfold mayK; simp [hk]
      rw [em]
      rw [hA, show J.first n.x n.g = decide (l[0]? = some n.g) by unfold Ide.first; rw [if_neg (by omega), hro]]
      by_cases e1 : old.a = 2
      · rw [decide_eq_true e1]
        cases l with
        | nil =>
          rw [show decide (([] : List Int)[0]? = some n.g) = false by simp]
          refine walk ?_
          (refine wp_draw [7] (.look 0 (.look 1 (.look 2 (.look 3 (.look 4 (.look 5 (.look 6 (.look 8 (.look 9 (.act 7 (.look 10 (.look 11 (.look 12 .nil))) .stop)))))))))) (by kernel_rfl) ?_; refine dwP ?_; refine dwL ?_; refine dwP ?_; refine dwP ?_; refine dwL ?_; refine dwP ?_; refine dwL ?_; refine dwP ?_; refine dwL ?_; skip)
          refine dw_do rfl rfl ?_ dw_stop
          refine step_wanted rfl rfl ?_
          rw [hxj]
          refine s_call rfl (rFirst (j := j) (hr.ent InH.ent) hj hj4) rfl ?_
          rintro _ _ ⟨e_, rfl⟩
          obtain rfl := e_.symm
          rw [show ([] : List Int).headD (-1) = -1 from rfl]
          refine wpl_nil (qone ⟨(by (refine st_again ?_ ?_; (· exact looked)); refine st_past (by kernel_rfl) ?_; refine st_past (by kernel_rfl) ?_; refine st_past (by kernel_rfl) ?_; exact st_nil), ?_⟩)
          (refine dwP ?_; refine dwP ?_; refine dwP ?_; refine dw_nil ?_; skip)
          refine walk ?_
          (first | (apply retRD1 (G := H) (.inr rfl) rfl; (· first | (refine rv_tmp (v := .bool _) rfl) | exact rv_tmp rfl); (· exact Ent.auto)) | (apply retRD1 (G := H) (.inl rfl) rfl; (· first | (refine rv_tmp (v := .bool _) rfl) | exact rv_tmp rfl); (· exact Ent.auto)))
          exact ⟨Ent.refl _, rfl⟩
        | cons y t =>
          by_cases e3 : y = n.g
          · rw [show decide ((y :: t)[0]? = some n.g) = true by simp [e3]]
            refine walk ?_
            (refine wp_draw [7] (.look 0 (.look 1 (.look 2 (.look 3 (.look 4 (.look 5 (.look 6 (.look 8 (.look 9 (.act 7 (.look 10 (.look 11 (.look 12 .nil))) .stop)))))))))) (by kernel_rfl) ?_; refine dwP ?_; refine dwL ?_; refine dwP ?_; refine dwP ?_; refine dwL ?_; refine dwP ?_; refine dwL ?_; refine dwP ?_; refine dwL ?_; skip)
            refine dw_do rfl rfl ?_ dw_stop
            refine step_wanted rfl rfl ?_
            rw [hxj]
            refine s_call rfl (rFirst (j := j) (hr.ent InH.ent) hj hj4) rfl ?_
            rintro _ _ ⟨e_, rfl⟩
            obtain rfl := e_.symm
            rw [show (y :: t).headD (-1) = y from rfl]
            refine wpl_nil (qone ⟨(by (refine st_again ?_ ?_; (· exact looked)); refine st_past (by kernel_rfl) ?_; refine st_past (by kernel_rfl) ?_; refine st_past (by kernel_rfl) ?_; exact st_nil), ?_⟩)
            (refine dwP ?_; refine dwP ?_; refine dwP ?_; refine dw_nil ?_; skip)
            refine walk ?_
            (first | (apply retRD1 (G := H) (.inr rfl) rfl; (· first | (refine rv_tmp (v := .bool _) rfl) | exact rv_tmp rfl); (· exact Ent.auto)) | (apply retRD1 (G := H) (.inl rfl) rfl; (· first | (refine rv_tmp (v := .bool _) rfl) | exact rv_tmp rfl); (· exact Ent.auto)))
            exact ⟨Ent.refl _, rfl⟩
          · rw [show decide ((y :: t)[0]? = some n.g) = false by simp [e3]]
            refine walk ?_
            (refine wp_draw [7] (.look 0 (.look 1 (.look 2 (.look 3 (.look 4 (.look 5 (.look 6 (.look 8 (.look 9 (.act 7 (.look 10 (.look 11 (.look 12 .nil))) .stop)))))))))) (by kernel_rfl) ?_; refine dwP ?_; refine dwL ?_; refine dwP ?_; refine dwP ?_; refine dwL ?_; refine dwP ?_; refine dwL ?_; refine dwP ?_; refine dwL ?_; skip)
            refine dw_do rfl rfl ?_ dw_stop
            refine step_wanted rfl rfl ?_
            rw [hxj]
            refine s_call rfl (rFirst (j := j) (hr.ent InH.ent) hj hj4) rfl ?_
            rintro _ _ ⟨e_, rfl⟩
            obtain rfl := e_.symm
            rw [show (y :: t).headD (-1) = y from rfl]
            refine wpl_nil (qone ⟨(by (refine st_again ?_ ?_; (· exact looked)); refine st_past (by kernel_rfl) ?_; refine st_past (by kernel_rfl) ?_; refine st_past (by kernel_rfl) ?_; exact st_nil), ?_⟩)
            (refine dwP ?_; refine dwP ?_; refine dwP ?_; refine dw_nil ?_; skip)
            refine walk ?_
            (first | (apply retRD1 (G := H) (.inr rfl) rfl; (· first | (refine rv_tmp (v := .bool _) rfl) | exact rv_tmp rfl); (· exact Ent.auto)) | (apply retRD1 (G := H) (.inl rfl) rfl; (· first | (refine rv_tmp (v := .bool _) rfl) | exact rv_tmp rfl); (· exact Ent.auto)))
            exact ⟨Ent.refl _, rfl⟩
      · rw [decide_eq_false e1, Bool.false_and]
        refine walk ?_
        (refine wp_draw [7] (.look 0 (.look 1 (.look 2 (.look 3 (.look 4 (.look 5 (.look 6 (.look 8 (.look 9 (.act 7 (.look 10 (.look 11 (.look 12 .nil))) .stop)))))))))) (by kernel_rfl) ?_; refine dwP ?_; refine dwL ?_; refine dwP ?_; refine dwP ?_; refine dwL ?_; refine dwP ?_; refine dwL ?_; refine dwP ?_; refine dwL ?_; skip)
        refine dw_do rfl rfl ?_ dw_stop
        (first | refine step_unwanted rfl rfl rfl rfl ?_ | refine step_unwantedU rfl rfl rfl ?_ | refine step_unwanted0 rfl rfl rfl ?_ | refine step_unwantedU0 rfl rfl ?_)
        refine wpl_nil (qone ⟨(by (refine st_again ?_ ?_; (· exact looked)); refine st_past (by kernel_rfl) ?_; refine st_past (by kernel_rfl) ?_; refine st_past (by kernel_rfl) ?_; exact st_nil), ?_⟩)
        (refine dwP ?_; refine dwP ?_; refine dwP ?_; refine dw_nil ?_; skip)
        refine walk ?_
        (first | (apply retRD1 (G := H) (.inr rfl) rfl; (· first | (refine rv_tmp (v := .bool _) rfl) | exact rv_tmp rfl); (· exact Ent.auto)) | (apply retRD1 (G := H) (.inl rfl) rfl; (· first | (refine rv_tmp (v := .bool _) rfl) | exact rv_tmp rfl); (· exact Ent.auto)))
        exact ⟨Ent.refl _, rfl⟩
    · skip
      have em : mayK J n = (runsB J n) := by unfold mayK; simp [hk]
      rw [em]
      refine walk ?_
      (first | (apply retRD1 (G := H) (.inr rfl) rfl; (· first | (refine rv_tmp (v := .bool _) rfl) | exact rv_tmp rfl); (· exact Ent.auto)) | (apply retRD1 (G := H) (.inl rfl) rfl; (· first | (refine rv_tmp (v := .bool _) rfl) | exact rv_tmp rfl); (· exact Ent.auto)))
      exact ⟨Ent.refl _, rfl⟩
    · skip
      have em : mayK J n = (runsB J n && decide ((J.callers : Int) < J.c.m - J.c.n)) := by unfold mayK; simp [hk]
      rw [em]
      cases hq : runsB J n with
      | false =>
        rw [Bool.false_and]
        refine walk ?_
        (refine wp_draw [3] (.look 0 (.look 1 (.look 2 (.look 4 (.look 5 (.look 6 (.look 7 (.look 8 (.look 9 (.look 10 (.act 3 (.look 11 (.look 12 (.look 13 .nil))) .stop))))))))))) (by kernel_rfl) ?_; refine dwP ?_; refine dwP ?_; refine dwL ?_; refine dwP ?_; refine dwP ?_; refine dwL ?_; refine dwP ?_; refine dwP ?_; refine dwL ?_; refine dwP ?_; skip)
        refine dw_do rfl rfl ?_ dw_stop
        (first | refine step_unwanted rfl rfl rfl rfl ?_ | refine step_unwantedU rfl rfl rfl ?_ | refine step_unwanted0 rfl rfl rfl ?_ | refine step_unwantedU0 rfl rfl ?_)
        refine wpl_nil (qone ⟨(by (refine st_again ?_ ?_; (· exact looked)); (refine st_again ?_ ?_; (· exact looked)); refine st_past (by kernel_rfl) ?_; exact st_nil), ?_⟩)
        (refine dwP ?_; refine dwP ?_; refine dwP ?_; refine dw_nil ?_; skip)
        refine walk ?_
        (first | (apply retRD1 (G := H) (.inr rfl) rfl; (· first | (refine rv_tmp (v := .bool _) rfl) | exact rv_tmp rfl); (· exact Ent.auto)) | (apply retRD1 (G := H) (.inl rfl) rfl; (· first | (refine rv_tmp (v := .bool _) rfl) | exact rv_tmp rfl); (· exact Ent.auto)))
        exact ⟨Ent.refl _, rfl⟩
      | true =>
        by_cases e1 : (J.callers : Int) < J.c.m - J.c.n
        · rw [decide_eq_true e1]
          refine walk ?_
          (refine wp_draw [3] (.look 0 (.look 1 (.look 2 (.look 4 (.look 5 (.look 6 (.look 7 (.look 8 (.look 9 (.look 10 (.act 3 (.look 11 (.look 12 (.look 13 .nil))) .stop))))))))))) (by kernel_rfl) ?_; refine dwP ?_; refine dwP ?_; refine dwL ?_; refine dwP ?_; refine dwP ?_; refine dwL ?_; refine dwP ?_; refine dwP ?_; refine dwL ?_; refine dwP ?_; skip)
          refine dw_do rfl rfl ?_ dw_stop
          refine step_wanted rfl rfl ?_
          refine s_call rfl (rCallers (hr.ent InH.ent) hlt16) rfl ?_
          rintro _ _ ⟨e_, rfl⟩
          obtain rfl := e_.symm
          refine wpl_nil (qone ⟨(by (refine st_again ?_ ?_; (· exact looked)); (refine st_again ?_ ?_; (· exact looked)); refine st_past (by kernel_rfl) ?_; exact st_nil), ?_⟩)
          (refine dwP ?_; refine dwP ?_; refine dwP ?_; refine dw_nil ?_; skip)
          refine walk ?_
          (first | (apply retRD1 (G := H) (.inr rfl) rfl; (· first | (refine rv_tmp (v := .bool _) rfl) | exact rv_tmp rfl); (· exact Ent.auto)) | (apply retRD1 (G := H) (.inl rfl) rfl; (· first | (refine rv_tmp (v := .bool _) rfl) | exact rv_tmp rfl); (· exact Ent.auto)))
          exact ⟨Ent.refl _, rfl⟩
        · rw [decide_eq_false e1]
          refine walk ?_
          (refine wp_draw [3] (.look 0 (.look 1 (.look 2 (.look 4 (.look 5 (.look 6 (.look 7 (.look 8 (.look 9 (.look 10 (.act 3 (.look 11 (.look 12 (.look 13 .nil))) .stop))))))))))) (by kernel_rfl) ?_; refine dwP ?_; refine dwP ?_; refine dwL ?_; refine dwP ?_; refine dwP ?_; refine dwL ?_; refine dwP ?_; refine dwP ?_; refine dwL ?_; refine dwP ?_; skip)
          refine dw_do rfl rfl ?_ dw_stop
          refine step_wanted rfl rfl ?_
          refine s_call rfl (rCallers (hr.ent InH.ent) hlt16) rfl ?_
          rintro _ _ ⟨e_, rfl⟩
          obtain rfl := e_.symm
          refine wpl_nil (qone ⟨(by (refine st_again ?_ ?_; (· exact looked)); (refine st_again ?_ ?_; (· exact looked)); refine st_past (by kernel_rfl) ?_; exact st_nil), ?_⟩)
          (refine dwP ?_; refine dwP ?_; refine dwP ?_; refine dw_nil ?_; skip)
          refine walk ?_
          (first | (apply retRD1 (G := H) (.inr rfl) rfl; (· first | (refine rv_tmp (v := .bool _) rfl) | exact rv_tmp rfl); (· exact Ent.auto)) | (apply retRD1 (G := H) (.inl rfl) rfl; (· first | (refine rv_tmp (v := .bool _) rfl) | exact rv_tmp rfl); (· exact Ent.auto)))
          exact ⟨Ent.refl _, rfl⟩
    · skip
      obtain ⟨kp, v, bp, op, hpk, hkl2, hB, ep, cp⟩ := pG (by rw [hk]; decide)
      subst ep
      have hvl : J.pAt n.p < J.ms.length := by
        rw [hB]
        obtain ⟨kp', v', e', hkp', hA'⟩ := pGet (I := J) (p := n.p) (by omega)
        have h3 := ok.pm v' (List.mem_of_getElem? hkp')
        have h4 : v' = v := by rw [← hA', hB]
        omega
      by_cases ex : n.x = 1
      · skip
        have em : mayK J n = (callsB J n && (decide ((J.mAt n.m).b = n.p) && J.kept n.p)) := by unfold mayK; simp [hk, ex]
        rw [em]
        rw [hA]
        cases hq : callsB J n with
        | false =>
          rw [Bool.false_and]
          refine walk ?_
          (first | (apply retRD1 (G := H) (.inr rfl) rfl; (· first | (refine rv_tmp (v := .bool _) rfl) | exact rv_tmp rfl); (· exact Ent.auto)) | (apply retRD1 (G := H) (.inl rfl) rfl; (· first | (refine rv_tmp (v := .bool _) rfl) | exact rv_tmp rfl); (· exact Ent.auto)))
          exact ⟨Ent.refl _, rfl⟩
        | true =>
          by_cases e1 : old.b = n.p
          · rw [decide_eq_true e1]
            cases hkk : J.kept n.p with
            | false =>
              refine walk ?_
              refine s_call rfl (rKept (p := n.p) (hr.ent InH.ent) (by omega) hvl) rfl ?_
              rintro _ _ ⟨e_, rfl⟩
              obtain rfl := e_.symm
              rw [hkk]
              refine walk ?_
              (first | (apply retRD1 (G := H) (.inr rfl) rfl; (· first | (refine rv_tmp (v := .bool _) rfl) | exact rv_tmp rfl); (· exact Ent.auto)) | (apply retRD1 (G := H) (.inl rfl) rfl; (· first | (refine rv_tmp (v := .bool _) rfl) | exact rv_tmp rfl); (· exact Ent.auto)))
              exact ⟨Ent.refl _, rfl⟩
            | true =>
              refine walk ?_
              refine s_call rfl (rKept (p := n.p) (hr.ent InH.ent) (by omega) hvl) rfl ?_
              rintro _ _ ⟨e_, rfl⟩
              obtain rfl := e_.symm
              rw [hkk]
              refine walk ?_
              (first | (apply retRD1 (G := H) (.inr rfl) rfl; (· first | (refine rv_tmp (v := .bool _) rfl) | exact rv_tmp rfl); (· exact Ent.auto)) | (apply retRD1 (G := H) (.inl rfl) rfl; (· first | (refine rv_tmp (v := .bool _) rfl) | exact rv_tmp rfl); (· exact Ent.auto)))
              exact ⟨Ent.refl _, rfl⟩
          · rw [decide_eq_false e1, Bool.false_and]
            refine walk ?_
            (first | (apply retRD1 (G := H) (.inr rfl) rfl; (· first | (refine rv_tmp (v := .bool _) rfl) | exact rv_tmp rfl); (· exact Ent.auto)) | (apply retRD1 (G := H) (.inl rfl) rfl; (· first | (refine rv_tmp (v := .bool _) rfl) | exact rv_tmp rfl); (· exact Ent.auto)))
            exact ⟨Ent.refl _, rfl⟩
      · skip
        have em : mayK J n = (callsB J n && (decide ((J.mAt n.m).p < 0) && decide (J.pAt n.p = -1))) := by unfold mayK; simp [hk, ex]
        rw [em]
        rw [hA, hB]
        have mpb := mi.p
        cases hq : callsB J n with
        | false =>
          rw [Bool.false_and]
          refine walk ?_
          (first | (apply retRD1 (G := H) (.inr rfl) rfl; (· first | (refine rv_tmp (v := .bool _) rfl) | exact rv_tmp rfl); (· exact Ent.auto)) | (apply retRD1 (G := H) (.inl rfl) rfl; (· first | (refine rv_tmp (v := .bool _) rfl) | exact rv_tmp rfl); (· exact Ent.auto)))
          exact ⟨Ent.refl _, rfl⟩
        | true =>
          by_cases e1 : old.p < 0
          · rw [decide_eq_true e1]
            by_cases e2 : v = -1
            · rw [decide_eq_true e2]
              refine walk ?_
              (apply s_indexAddr (j := kp) (o' := op + kp); (· exact rfl); (· exact rfl); (· omega); (· omega); (· omega); (· exact rfl))
              refine walk ?_
              (first | (apply retRD1 (G := H) (.inr rfl) rfl; (· first | (refine rv_tmp (v := .bool _) rfl) | exact rv_tmp rfl); (· exact Ent.auto)) | (apply retRD1 (G := H) (.inl rfl) rfl; (· first | (refine rv_tmp (v := .bool _) rfl) | exact rv_tmp rfl); (· exact Ent.auto)))
              exact ⟨Ent.refl _, rfl⟩
            · rw [decide_eq_false e2]
              refine walk ?_
              (apply s_indexAddr (j := kp) (o' := op + kp); (· exact rfl); (· exact rfl); (· omega); (· omega); (· omega); (· exact rfl))
              refine walk ?_
              (first | (apply retRD1 (G := H) (.inr rfl) rfl; (· first | (refine rv_tmp (v := .bool _) rfl) | exact rv_tmp rfl); (· exact Ent.auto)) | (apply retRD1 (G := H) (.inl rfl) rfl; (· first | (refine rv_tmp (v := .bool _) rfl) | exact rv_tmp rfl); (· exact Ent.auto)))
              exact ⟨Ent.refl _, rfl⟩
          · rw [decide_eq_false e1, Bool.false_and]
            refine walk ?_
            (first | (apply retRD1 (G := H) (.inr rfl) rfl; (· first | (refine rv_tmp (v := .bool _) rfl) | exact rv_tmp rfl); (· exact Ent.auto)) | (apply retRD1 (G := H) (.inl rfl) rfl; (· first | (refine rv_tmp (v := .bool _) rfl) | exact rv_tmp rfl); (· exact Ent.auto)))
            exact ⟨Ent.refl _, rfl⟩
    · skip
      have em : mayK J n = (callsB J n && decide ((J.mAt n.m).p < 0)) := by unfold mayK; simp [hk]
      rw [em]
      rw [hA]
      have mpb := mi.p
      cases hq : callsB J n with
      | false =>
        rw [Bool.false_and]
        refine walk ?_
        (first | (apply retRD1 (G := H) (.inr rfl) rfl; (· first | (refine rv_tmp (v := .bool _) rfl) | exact rv_tmp rfl); (· exact Ent.auto)) | (apply retRD1 (G := H) (.inl rfl) rfl; (· first | (refine rv_tmp (v := .bool _) rfl) | exact rv_tmp rfl); (· exact Ent.auto)))
        exact ⟨Ent.refl _, rfl⟩
      | true =>
        by_cases e1 : old.p < 0
        · rw [decide_eq_true e1]
          refine walk ?_
          (first | (apply retRD1 (G := H) (.inr rfl) rfl; (· first | (refine rv_tmp (v := .bool _) rfl) | exact rv_tmp rfl); (· exact Ent.auto)) | (apply retRD1 (G := H) (.inl rfl) rfl; (· first | (refine rv_tmp (v := .bool _) rfl) | exact rv_tmp rfl); (· exact Ent.auto)))
          exact ⟨Ent.refl _, rfl⟩
        · rw [decide_eq_false e1]
          refine walk ?_
          (first | (apply retRD1 (G := H) (.inr rfl) rfl; (· first | (refine rv_tmp (v := .bool _) rfl) | exact rv_tmp rfl); (· exact Ent.auto)) | (apply retRD1 (G := H) (.inl rfl) rfl; (· first | (refine rv_tmp (v := .bool _) rfl) | exact rv_tmp rfl); (· exact Ent.auto)))
          exact ⟨Ent.refl _, rfl⟩
    · skip
      obtain ⟨kp, v, bp, op, hpk, hkl2, hB, ep, cp⟩ := pG (by rw [hk]; decide)
      subst ep
      have hx2 : 0 ≤ n.x ∧ n.x < 2 := hx4 13 hk (by decide)
      have em : mayK J n = (decide ((J.mAt n.m).a = 0) && decide (J.pAt n.p = n.x - 2)) := by unfold mayK; simp [hk]
      rw [em]
      rw [hA, hB]
      by_cases e1 : old.a = 0
      · rw [decide_eq_true e1]
        by_cases e2 : v = n.x - 2
        · rw [decide_eq_true e2]
          refine walk ?_
          (refine wp_draw [] (.look 0 (.look 1 (.look 2 (.look 3 (.look 4 (.look 5 (.look 6 (.look 7 (.look 8 (.look 9 (.look 10 (.look 11 (.look 12 (.look 13 (.look 14 (.look 15 .nil)))))))))))))))) (by kernel_rfl) ?_; refine dwP ?_; refine dwL ?_; refine dwP ?_; refine dwP ?_; refine dwP ?_; refine dwL ?_; refine dwP ?_; refine dwL ?_; (apply dw_pure; (· exact rfl); (· exact rfl); (· (intro G; (first | (refine step_wanted rfl rfl ?_; (apply s_indexAddr (j := kp) (o' := op + kp); (· exact rfl); (· exact rfl); (· omega); (· omega); (· omega); (· exact rfl))) | (apply s_indexAddr (j := kp) (o' := op + kp); (· exact rfl); (· exact rfl); (· omega); (· omega); (· omega); (· exact rfl)) | skip); exact looked))); refine dwL ?_; refine dwP ?_; refine dwL ?_; refine dwP ?_; refine dwP ?_; refine dwP ?_; refine dwP ?_; refine dw_nil ?_)
          refine walk ?_
          (first | (apply retRD1 (G := H) (.inr rfl) rfl; (· first | (refine rv_tmp (v := .bool _) rfl) | exact rv_tmp rfl); (· exact Ent.auto)) | (apply retRD1 (G := H) (.inl rfl) rfl; (· first | (refine rv_tmp (v := .bool _) rfl) | exact rv_tmp rfl); (· exact Ent.auto)))
          exact ⟨Ent.refl _, rfl⟩
        · rw [decide_eq_false e2]
          refine walk ?_
          (refine wp_draw [] (.look 0 (.look 1 (.look 2 (.look 3 (.look 4 (.look 5 (.look 6 (.look 7 (.look 8 (.look 9 (.look 10 (.look 11 (.look 12 (.look 13 (.look 14 (.look 15 .nil)))))))))))))))) (by kernel_rfl) ?_; refine dwP ?_; refine dwL ?_; refine dwP ?_; refine dwP ?_; refine dwP ?_; refine dwL ?_; refine dwP ?_; refine dwL ?_; (apply dw_pure; (· exact rfl); (· exact rfl); (· (intro G; (first | (refine step_wanted rfl rfl ?_; (apply s_indexAddr (j := kp) (o' := op + kp); (· exact rfl); (· exact rfl); (· omega); (· omega); (· omega); (· exact rfl))) | (apply s_indexAddr (j := kp) (o' := op + kp); (· exact rfl); (· exact rfl); (· omega); (· omega); (· omega); (· exact rfl)) | skip); exact looked))); refine dwL ?_; refine dwP ?_; refine dwL ?_; refine dwP ?_; refine dwP ?_; refine dwP ?_; refine dwP ?_; refine dw_nil ?_)
          refine walk ?_
          (first | (apply retRD1 (G := H) (.inr rfl) rfl; (· first | (refine rv_tmp (v := .bool _) rfl) | exact rv_tmp rfl); (· exact Ent.auto)) | (apply retRD1 (G := H) (.inl rfl) rfl; (· first | (refine rv_tmp (v := .bool _) rfl) | exact rv_tmp rfl); (· exact Ent.auto)))
          exact ⟨Ent.refl _, rfl⟩
      · rw [decide_eq_false e1, Bool.false_and]
        refine walk ?_
        (refine wp_draw [] (.look 0 (.look 1 (.look 2 (.look 3 (.look 4 (.look 5 (.look 6 (.look 7 (.look 8 (.look 9 (.look 10 (.look 11 (.look 12 (.look 13 (.look 14 (.look 15 .nil)))))))))))))))) (by kernel_rfl) ?_; refine dwP ?_; refine dwL ?_; refine dwP ?_; refine dwP ?_; refine dwP ?_; refine dwL ?_; refine dwP ?_; refine dwL ?_; (apply dw_pure; (· exact rfl); (· exact rfl); (· (intro G; (first | (refine step_wanted rfl rfl ?_; (apply s_indexAddr (j := kp) (o' := op + kp); (· exact rfl); (· exact rfl); (· omega); (· omega); (· omega); (· exact rfl))) | (apply s_indexAddr (j := kp) (o' := op + kp); (· exact rfl); (· exact rfl); (· omega); (· omega); (· omega); (· exact rfl)) | skip); exact looked))); refine dwL ?_; refine dwP ?_; refine dwL ?_; refine dwP ?_; refine dwP ?_; refine dwP ?_; refine dwP ?_; refine dw_nil ?_)
        refine walk ?_
        (first | (apply retRD1 (G := H) (.inr rfl) rfl; (· first | (refine rv_tmp (v := .bool _) rfl) | exact rv_tmp rfl); (· exact Ent.auto)) | (apply retRD1 (G := H) (.inl rfl) rfl; (· first | (refine rv_tmp (v := .bool _) rfl) | exact rv_tmp rfl); (· exact Ent.auto)))
        exact ⟨Ent.refl _, rfl⟩
    · skip
      have em : mayK J n = (searchesB J n) := by unfold mayK; simp [hk]
      rw [em]
      refine walk ?_
      (first | (apply retRD1 (G := H) (.inr rfl) rfl; (· first | (refine rv_tmp (v := .bool _) rfl) | exact rv_tmp rfl); (· exact Ent.auto)) | (apply retRD1 (G := H) (.inl rfl) rfl; (· first | (refine rv_tmp (v := .bool _) rfl) | exact rv_tmp rfl); (· exact Ent.auto)))
      exact ⟨Ent.refl _, rfl⟩
end
end Go.Proofs.YtlhnmbajbhaaoaaGreat
