/- The reference: rows of one's own; what a copy is. The reference: a copy. The reference: what ends. The reference: what a step is; what a system of one's own is. The reference: what a note does, kind by kind. No condition. -/
import Derived.Test.YtlhnmbajbhaaoaaGreatB8
import Derived.Test.YtlhnmbajbhaaoaaGreatSL2
namespace Go.Proofs.YtlhnmbajbhaaoaaGreat
open Go Go.SL
set_option linter.unusedSimpArgs false
set_option linter.unusedVariables false
set_option maxRecDepth 10000
set_option maxHeartbeats 4000000
theorem zs_map1 (S : SemS) (k : Nat) (l : List Int) (c : Int) : (zs (S.map (·.2))).set k (.int .i64 c) = zs ((S.set k (l, c)).map (·.2)) := by simp [zs, List.map_set]
theorem mcs_setA {l : List Mc} {k : Nat} (h : k < l.length) (sp : List Value) (a : Int) : (mcs l ++ sp).set (k * 4 + 0) (.int .i64 a) = mcs (l.modify k fun x => { x with a := a }) ++ sp := by
  have hl : (mcs (l.take k)).length = k * 4 := by rw [mcs_len, List.length_take]; omega
  rw [mcs_modify h, mcs_split h, List.append_assoc, List.set_append_right _ _ (by omega), hl, Nat.add_sub_cancel_left, List.append_assoc]
  simp [mcC]
theorem mcs_setG {l : List Mc} {k : Nat} (h : k < l.length) (sp : List Value) (a : Int) : (mcs l ++ sp).set (k * 4 + 2) (.int .i64 a) = mcs (l.modify k fun x => { x with g := a }) ++ sp := by
  have hl : (mcs (l.take k)).length = k * 4 := by rw [mcs_len, List.length_take]; omega
  rw [mcs_modify h, mcs_split h, List.append_assoc, List.set_append_right _ _ (by omega), hl, Nat.add_sub_cancel_left, List.append_assoc]
  simp [mcC]
theorem mod3 (l : List Mc) (k : Nat) (a p g : Int) : ((l.modify k fun x => { x with a := a }).modify k fun x => { x with p := p }).modify k (fun x => { x with g := g }) = l.modify k fun x => { x with a := a, p := p, g := g } := by
  apply List.ext_getElem?
  intro j
  simp only [List.getElem?_modify]
  cases l[j]? with
  | none => rfl
  | some y => simp only [Option.map_eq_map, Option.map_some]; split <;> rfl
attribute [local irreducible] WP WPL QSeq QBlk QRet Does Cell Cells Rd Mine Ent Aside RV Yield TabAt SemAt IdeAt
theorem three {x y z : Value} {cs : List Value} {o : Nat} (h0 : cs[o]? = some x) (h1 : cs[o + 1]? = some y) (h2 : cs[o + 2]? = some z) : ∀ j v, ([x, y, z] : List Value)[j]? = some v → cs[o + j]? = some v
  | 0, v, h => by rw [Nat.add_zero, h0]; exact h
  | 1, v, h => by rw [h1]; exact h
  | 2, v, h => by rw [h2]; exact h
  | j + 3, v, h => by simp at h
/-- Lists of one's own. -/
def Ws : List (Value × List Int) → HProp
  | [] => emp
  | p :: q => Mine 3 1 p.1 p.2.length (zs p.2) + Ws q
theorem Ws.push (q : List (Value × List Int)) (p : Value × List Int) : Ws (q ++ [p]) = Mine 3 1 p.1 p.2.length (zs p.2) + Ws q := by
  induction q with
  | nil => rfl
  | cons r q ih => show _ + Ws (q ++ [p]) = _ + (_ + Ws q); rw [ih, HProp.add_left_comm]
theorem Ws.out {q : List (Value × List Int)} {k : Nat} {p : Value × List Int} (h : q[k]? = some p) : Ws q = Mine 3 1 p.1 p.2.length (zs p.2) + Ws (q.eraseIdx k) := by
  induction q generalizing k with
  | nil => simp at h
  | cons r q ih =>
    cases k with
    | zero =>
      rw [List.getElem?_cons_zero, Option.some.injEq] at h
      subst h
      rfl
    | succ k =>
      rw [List.getElem?_cons_succ] at h
      show _ + Ws q = _ + (_ + Ws (q.eraseIdx k))
      rw [ih h, HProp.add_left_comm]
theorem Ws.rds {B : World} {q : List (Value × List Int)} (hz : ∃ w, Holds B (Ws q) w) : ∀ p ∈ q, Rd B (Ws q) 1 p.1 p.2.length (zs p.2) ∧ ∃ ao cap, p.1 = .slice ao p.2.length cap ∧ p.2.length ≤ cap ∧ cap ≤ maxLen := by
  intro p hp
  obtain ⟨k, hk, rfl⟩ := List.getElem_of_mem hp
  have ho := Ws.out (List.getElem?_eq_getElem hk)
  obtain ⟨w, hw⟩ := hz
  have h2 := hw
  rw [ho] at h2
  obtain ⟨ao, cap, e, _, h3, h4⟩ := Mine.shape h2
  refine ⟨?_, ao, cap, e, h3, h4⟩
  rw [ho]
  exact (Mine.rd ⟨w, h2.ent (Ent.drop_right _ _)⟩).ent (Ent.drop_right _ _)
section
variable {B : World} {H F G : HProp} {J : Ide} {a : RA} {n : Nt} {K : Int} {cnt : List Int} {P : Program} {ops n' : Nat} {f : Nat}
theorem Does.ws {q : List (Value × List Int)} {args : List Value} {R : Value → HProp → Prop} (h : (∀ p ∈ q, Rd B (Ws q) 1 p.1 p.2.length (zs p.2) ∧ ∃ ao cap, p.1 = .slice ao p.2.length cap ∧ p.2.length ≤ cap ∧ cap ≤ maxLen) → Does Tryz.prog B f args (Ws q + F) R) : Does Tryz.prog B f args (Ws q + F) R :=
  Does.under fun w hw => ⟨_, hw, h (Ws.rds ⟨w, hw.ent (Ent.drop_right _ _)⟩)⟩
/-- The system that a copy is. -/
theorem RI.own {t : RefA} {bc kc bw kw bm km bp kp : Nat} {sc sw sm sp ws : List Value} (ht : RefC B F t J.tab) (hs : J.sem.length = 4) (hw : ws.length = 4) (hm : J.ms.length ≤ maxLen) (hp : J.ps.length ≤ maxLen)
    (hq : ∀ (i : Nat) (l : List Int) (c : Int), J.sem[i]? = some (l, c) → ∃ o k, ws[i]? = some (.slice o l.length k) ∧ Rd B F 1 (.slice o l.length k) l.length (zs l)) :
    RI B (blk bc (zs (J.sem.map (·.2)) ++ sc) 3 + (blk bw (ws ++ sw) 29 + (blk bm (mcs J.ms ++ sm) 86 + (blk bp (zs J.ps ++ sp) 3 + F)))) J ⟨t, some ⟨bc, 0, none⟩, kc, some ⟨bw, 0, none⟩, kw, some ⟨bm, 0, none⟩, km, some ⟨bp, 0, none⟩, kp, ws⟩ := by
  have e : Ent (blk bc (zs (J.sem.map (·.2)) ++ sc) 3 + (blk bw (ws ++ sw) 29 + (blk bm (mcs J.ms ++ sm) 86 + (blk bp (zs J.ps ++ sp) 3 + F)))) F := InH.ent
  refine ⟨ht.ent e, ?_, ?_, fun i l c hi => ?_, ?_, ?_⟩
  · exact Rd.blkPre (by rw [zs_length, List.length_map, hs]) (by simp [maxLen])
  · exact Rd.blkPre (by rw [hw]) (by simp [maxLen])
  · obtain ⟨o, k, h1, h2⟩ := hq i l c hi
    exact ⟨o, k, h1, h2.ent e⟩
  · exact Rd.blkPre (mcs_len _) hm
  · exact Rd.blkPre (by rw [zs_length, Nat.mul_one]) hp
theorem rfC_len {J J' : Ide} (hc : J'.c = J.c) (ht : J'.tab = J.tab) (h1 : J'.ms.length = J.ms.length) (h2 : J'.ps.length = J.ps.length) (hm : J'.many = J.many) : rfC J' a = rfC J a := by
  unfold rfC
  rw [hc, ht, h1, h2, hm]
/-- What a change of Ms and Ps answers, and leaves. -/
def OnR (B : World) (F : HProp) (t : RefA) (T : Tab) (J : Ide) (oc ow : Option Addr) (kc kw bm km bp kp : Nat) (sm sp ws : List Value) (r : Value) (H' : HProp) : Prop := ∃ X t',
  r = rfV J ⟨t', oc, kc, ow, kw, some ⟨bm, 0, none⟩, km, some ⟨bp, 0, none⟩, kp, ws⟩ ∧ H' = blk bm (mcs J.ms ++ sm) 86 + (blk bp (zs J.ps ++ sp) 3 + (X + F)) ∧ ∀ G, RefC B G t T → RefC B (X + G) t' J.tab
theorem OnR.of {t t' : RefA} {T : Tab} {oc ow : Option Addr} {kc kw bm km bp kp : Nat} {sm sp ws : List Value} {r : Value} {X : HProp} (h1 : r = rfV J ⟨t', oc, kc, ow, kw, some ⟨bm, 0, none⟩, km, some ⟨bp, 0, none⟩, kp, ws⟩) (h2 : Ent H (blk bm (mcs J.ms ++ sm) 86 + (blk bp (zs J.ps ++ sp) 3 + (X + F)))) (h3 : ∀ G, RefC B G t T → RefC B (X + G) t' J.tab) :
    ∃ G, Ent H G ∧ OnR B F t T J oc ow kc kw bm km bp kp sm sp ws r G := ⟨_, h2, X, t', h1, rfl, h3⟩
theorem rOn {F1 : HProp} {V : Value} {t : RefA} {oc ow : Option Addr} {kc kw bm km bp kp k kk : Nat} {sm sp ws : List Value} {at_ g st : Int} [i1 : HasBlk H bm (mcs J.ms ++ sm) 86 F1] [i2 : HasBlk F1 bp (zs J.ps ++ sp) 3 F]
    (hV : V = rfV J ⟨t, oc, kc, ow, kw, some ⟨bm, 0, none⟩, km, some ⟨bp, 0, none⟩, kp, ws⟩) (hm : n.m = (k : Int)) (hk : k < J.ms.length) (hp : n.p = (kk : Int)) (hkk : kk < J.ps.length) (hr : RefC B F t J.tab) (ok : J.tab.ok K) (hK : K ≤ 100000) :
    Does Tryz.prog B 55 [V, noteV n, .int .i64 at_, .int .i64 g, .int .i64 st] H fun r H' => OnR B F t J.tab ((J.tset n.g st).has n.m n.p at_ g) oc ow kc kw bm km bp kp sm sp ws r H' := by
  have hl1 : (mcs J.ms).length = J.ms.length * 4 := mcs_len _
  have hl2 : (zs J.ps).length = J.ps.length := zs_length _
  subst hV
  rw [i1.eq, i2.eq]
  refine Does.weak (R := fun r H' => ∃ G, Ent H' G ∧ OnR B F t J.tab ((J.tset n.g st).has n.m n.p at_ g) oc ow kc kw bm km bp kp sm sp ws r G) ?_ fun v H1 h => h
  refine fn_intro 51 Tryz.func55 rfl rfl rfl ?_
  refine walk ?_
  refine s_box rfl rfl rfl ?_
  intro b5
  refine walk ?_
  refine s_box (cs := nv n) rfl rfl rfl ?_
  intro b6
  refine s_alloc rfl ?_
  intro b10
  refine walk ?_
  (apply s_indexAddr (j := k) (o' := 0 + k * 4); (· exact rfl); (· exact rfl); (· omega); (· omega); (· omega); (· exact rfl))
  refine walk ?_
  refine s_store (v := .int .i64 at_) (cs' := mcs (J.ms.modify k fun x => { x with a := at_ }) ++ sm) rfl rfl rfl ?_ (by rw [Nat.zero_add]; exact mcs_setA hk _ _) ?_
  · simp only [List.length_append]; omega
  refine walk ?_
  (apply s_indexAddr (j := k) (o' := 0 + k * 4); (· exact rfl); (· exact rfl); (· omega); (· omega); (· omega); (· exact rfl))
  refine walk ?_
  refine s_store (v := .int .i64 n.p) (cs' := mcs ((J.ms.modify k fun x => { x with a := at_ }).modify k fun x => { x with p := n.p }) ++ sm) rfl rfl rfl ?_ (by rw [Nat.zero_add]; exact mcs_setP (by rw [List.length_modify]; exact hk) _ _) ?_
  · simp only [List.length_append, mcs_len, List.length_modify]; omega
  refine walk ?_
  (apply s_indexAddr (j := k) (o' := 0 + k * 4); (· exact rfl); (· exact rfl); (· omega); (· omega); (· omega); (· exact rfl))
  refine walk ?_
  refine s_store (v := .int .i64 g) (cs' := mcs (((J.ms.modify k fun x => { x with a := at_ }).modify k fun x => { x with p := n.p }).modify k fun x => { x with g := g }) ++ sm) rfl rfl rfl ?_ (by rw [Nat.zero_add]; exact mcs_setG (by rw [List.length_modify, List.length_modify]; exact hk) _ _) ?_
  · simp only [List.length_append, mcs_len, List.length_modify]; omega
  rw [mod3]
  refine walk ?_
  (apply s_indexAddr (j := kk) (o' := 0 + kk); (· exact rfl); (· exact rfl); (· omega); (· omega); (· omega); (· exact rfl))
  refine walk ?_
  refine s_store (v := .int .i64 n.m) (cs' := zs (J.ps.set kk n.m) ++ sp) rfl rfl rfl ?_ (by rw [Nat.zero_add, List.set_append_left _ _ (by omega), zs_set]) ?_
  · simp only [List.length_append]; omega
  refine walk ?_
  refine s_loadA (vs := RefA.cells t J.tab) rfl (Cells.blk (three rfl rfl rfl)) rfl rfl ?_
  refine walk ?_
  refine s_call rfl (rSet (K := K) (hr.ent InH.ent) ok hK) rfl ?_
  rintro _ _ ⟨X, t', rfl, rfl, hX⟩
  refine walk ?_
  refine s_storeA (vs := RefA.cells t' (J.tab.set n.g st).2) rfl rfl rfl rfl (by show 6 + 3 ≤ 14; omega) rfl ?_
  refine walk ?_
  refine s_storeA (vs := rfC ((J.tset n.g st).has n.m n.p at_ g) ⟨t', oc, kc, ow, kw, some ⟨bm, 0, none⟩, km, some ⟨bp, 0, none⟩, kp, ws⟩) rfl ?_ rfl rfl (by show 0 + 14 ≤ 14; omega) rfl ?_
  · show Value.agg _ = Value.agg _
    have e1 : ((J.tset n.g st).has n.m n.p at_ g).ms.length = J.ms.length := by show (List.modify _ _ _).length = _; rw [List.length_modify]; rfl
    have e2 : ((J.tset n.g st).has n.m n.p at_ g).ps.length = J.ps.length := by show (if 0 ≤ n.p then J.ps.set n.p.toNat n.m else J.ps).length = _; split <;> simp
    simp only [rfC, e1, e2]
    rfl
  refine walk ?_
  refine retR1 (.inr rfl) rfl (rv_cellA rfl Cells.blk0 rfl) (OnR.of rfl ?_ hX)
  have e3 : ((J.tset n.g st).has n.m n.p at_ g).ms = J.ms.modify k fun x => { x with a := at_, p := n.p, g := g } := by show List.modify _ _ _ = _; rw [hm]; rfl
  have e4 : ((J.tset n.g st).has n.m n.p at_ g).ps = J.ps.set kk n.m := by show (if 0 ≤ n.p then J.ps.set n.p.toNat n.m else J.ps) = _; rw [if_pos (by omega), hp]; rfl
  rw [e3, e4]
  refine Ent.step (A := blk bm _ 86) (Ent.refl _) ?_
  refine Ent.step (A := blk bp _ 3) (Ent.refl _) ?_
  exact Ent.auto
end
end Go.Proofs.YtlhnmbajbhaaoaaGreat
namespace Go.Proofs.YtlhnmbajbhaaoaaGreat
open Go Go.SL
set_option linter.unusedSimpArgs false
set_option linter.unusedVariables false
set_option maxRecDepth 10000
set_option maxHeartbeats 4000000
theorem MineN (e : TypeId) (sz : Nat) (H : HProp) : H = Mine e sz (.slice none 0 0) 0 [] + H := by rw [Mine.nil, HProp.emp_add]
attribute [local irreducible] WP WPL QSeq QBlk QRet Does Cell Cells Rd Mine Ent Aside RV Yield TabAt SemAt IdeAt
section
variable {B : World} {H F G : HProp} {J : Ide} {a : RA} {n : Nt} {K : Int} {cnt : List Int}
/-- What a copy is. -/
theorem rCopied (hr : RI B H J a) (ok : J.ok K) (hK : K ≤ 100000) : Does Tryz.prog B 54 [rfV J a] H fun v H' => ∃ bc kc sc bw kw sw bm km sm bp kp sp q,
    v = rfV J ⟨a.t, some ⟨bc, 0, none⟩, kc, some ⟨bw, 0, none⟩, kw, some ⟨bm, 0, none⟩, km, some ⟨bp, 0, none⟩, kp, q.map (·.1)⟩ ∧ q.map (·.2) = J.sem.map (·.1) ∧
    H' = blk bc (zs (J.sem.map (·.2)) ++ sc) 3 + (blk bw (q.map (·.1) ++ sw) 29 + (blk bm (mcs J.ms ++ sm) 86 + (blk bp (zs J.ps ++ sp) 3 + (Ws q + H)))) := by
  have hml := ok.ml
  have hpl := ok.pl
  have hsl := ok.sl
  have hcc := ok.c
  obtain ⟨_, c1, c2, c3, c4, c5, c6, _⟩ := hcc
  have hcnt := hr.cnt
  have hmsr := hr.msr
  have hpsr := hr.psr
  have hwt : ∀ {k : Nat} {l : List Int} {c : Int}, J.sem[k]? = some (l, c) → _ := fun {k l c} h => hr.wtA (k := k) (l := l) (c := c) h
  refine Does.weak (R := fun v H' => ∃ bc kc sc bw kw sw bm km sm bp kp sp q,
    v = rfV J ⟨a.t, some ⟨bc, 0, none⟩, kc, some ⟨bw, 0, none⟩, kw, some ⟨bm, 0, none⟩, km, some ⟨bp, 0, none⟩, kp, q.map (·.1)⟩ ∧ q.map (·.2) = J.sem.map (·.1) ∧
    Ent H' (blk bc (zs (J.sem.map (·.2)) ++ sc) 3 + (blk bw (q.map (·.1) ++ sw) 29 + (blk bm (mcs J.ms ++ sm) 86 + (blk bp (zs J.ps ++ sp) 3 + (Ws q + H)))))) ?_
    fun v H1 ⟨x1, x2, x3, x4, x5, x6, x7, x8, x9, y1, y2, y3, q, h1, h2, h3⟩ => ⟨_, h3, x1, x2, x3, x4, x5, x6, x7, x8, x9, y1, y2, y3, q, h1, h2, rfl⟩
  obtain ⟨⟨o1, k1, o2, k2, o3, k3⟩, oc_, kc_, ow_, kw_, om_, km_, op_, kp_, ws_⟩ := a
  simp only at hcnt hmsr hpsr
  refine fn_intro 50 Tryz.func54 rfl rfl rfl ?_
  refine walk ?_
  refine s_box rfl rfl rfl ?_
  intro b1
  refine walk ?_
  refine s_alloc rfl ?_
  intro b2
  refine walk ?_
  refine s_alloc rfl ?_
  intro b3
  refine walk ?_
  refine s_storeV (vs := (rfC J ⟨⟨o1, k1, o2, k2, o3, k3⟩, oc_, kc_, ow_, kw_, om_, km_, op_, kp_, ws_⟩)) rfl rfl rfl rfl rfl ?_
  refine walk ?_
  refine s_store (v := .slice _ _ _) (cs' := [_, _, _, _, _, _, _, _, _, _, _, _, _, _]) rfl rfl rfl (by simp) rfl ?_
  refine walk ?_
  refine s_store (v := .slice _ _ _) (cs' := [_, _, _, _, _, _, _, _, _, _, _, _, _, _]) rfl rfl rfl (by simp) rfl ?_
  refine walk ?_
  refine s_store (v := .slice _ _ _) (cs' := [_, _, _, _, _, _, _, _, _, _, _, _, _, _]) rfl rfl rfl (by simp) rfl ?_
  refine walk ?_
  refine s_store (v := .slice _ _ _) (cs' := [_, _, _, _, _, _, _, _, _, _, _, _, _, _]) rfl rfl rfl (by simp) rfl ?_
  refine walk ?_
  refine WPL.ent (Ent.ac (MineN 3 1 _)) ?_
  refine s_append (v := .slice none 0 0) rfl rfl (hcnt.ent InH.ent) (zs_one _) rfl ?_ rfl ?_
  · simp only [maxLen]; omega
  intro v'
  simp only [Nat.zero_add, List.nil_append]
  refine WPL.shape ?_
  rintro ac kc rfl _ _ _
  refine WPL.open (by omega) ?_
  rintro bc sc rfl hsc
  refine walk ?_
  refine s_store (v := .slice _ _ _) (cs' := [_, _, _, _, _, _, _, _, _, _, _, _, _, _]) rfl rfl rfl (by simp) rfl ?_
  refine walk ?_
  refine WPL.ent (Ent.ac (MineN 86 4 _)) ?_
  refine s_append (v := .slice none 0 0) rfl rfl (hmsr.ent InH.ent) (mcs_one _) rfl ?_ rfl ?_
  · simp only [maxLen]; omega
  intro v'
  simp only [Nat.zero_add, List.nil_append]
  refine WPL.shape ?_
  rintro am km rfl _ _ _
  refine WPL.open (by omega) ?_
  rintro bm sm rfl hsm
  refine walk ?_
  refine s_store (v := .slice _ _ _) (cs' := [_, _, _, _, _, _, _, _, _, _, _, _, _, _]) rfl rfl rfl (by simp) rfl ?_
  refine walk ?_
  refine WPL.ent (Ent.ac (MineN 3 1 _)) ?_
  refine s_append (v := .slice none 0 0) rfl rfl (hpsr.ent InH.ent) (zs_one _) rfl ?_ rfl ?_
  · simp only [maxLen]; omega
  intro v'
  simp only [Nat.zero_add, List.nil_append]
  refine WPL.shape ?_
  rintro ap kp rfl _ _ _
  refine WPL.open (by omega) ?_
  rintro bp sp rfl hsp
  refine walk ?_
  refine s_store (v := .slice _ _ _) (cs' := [_, _, _, _, _, _, _, _, _, _, _, _, _, _]) rfl rfl rfl (by simp) rfl ?_
  refine walk ?_
  refine wp_loopF (α := Nat × (Option Addr × Nat) × List (Value × List Int)) [4, 5, 29, 30, 31, 32, 33, 34, 35, 36, 37, 38, 39, 40, 41, 42, 43, 44, 45, 46, 47, 48] (fun z => [(4, .int .i64 z.1)])
    (fun z => blk b3 [.int .i64 J.c.n, .int .i64 J.c.q, .int .i64 J.c.g, .int .i64 J.c.m, .int .i64 J.c.t, .int .i64 J.c.s, .slice o1 J.tab.all.length k1, .slice o2 J.tab.all.length k2, .slice o3 J.tab.row.length k3, .slice (some ⟨bc, 0, none⟩) 4 kc, .slice z.2.1.1 z.1 z.2.1.2, .slice (some ⟨bm, 0, none⟩) J.ms.length km, .slice (some ⟨bp, 0, none⟩) J.ps.length kp, .int .i64 J.many] 35 + (Mine 29 1 (.slice z.2.1.1 z.1 z.2.1.2) z.1 (z.2.2.map (·.1)) + (Ws z.2.2 + (blk b1 (rfC J ⟨⟨o1, k1, o2, k2, o3, k3⟩, oc_, kc_, ow_, kw_, om_, km_, op_, kp_, ws_⟩) 35 + (blk b2 [.int .i64 0, .int .i64 0, .int .i64 0, .int .i64 0, .int .i64 0, .int .i64 0, .slice none 0 0, .slice none 0 0, .slice none 0 0, .slice none 0 0, .slice none 0 0, .slice none 0 0, .slice none 0 0, .int .i64 0] 35 + (blk bc (zs (J.sem.map (·.2)) ++ sc) 3 + (blk bm (mcs J.ms ++ sm) 86 + (blk bp (zs J.ps ++ sp) 3 + H))))))))
    (fun z => z.1 ≤ 4 ∧ z.2.2.map (·.2) = (J.sem.map (·.1)).take z.1) (fun z => 4 - z.1) (0, (none, 0), []) agreed ?_ ⟨Nat.zero_le _, rfl⟩ ?_
  · show Ent _ (blk b3 [.int .i64 J.c.n, .int .i64 J.c.q, .int .i64 J.c.g, .int .i64 J.c.m, .int .i64 J.c.t, .int .i64 J.c.s, .slice o1 J.tab.all.length k1, .slice o2 J.tab.all.length k2, .slice o3 J.tab.row.length k3, .slice (some ⟨bc, 0, none⟩) 4 kc, .slice none 0 0, .slice (some ⟨bm, 0, none⟩) J.ms.length km, .slice (some ⟨bp, 0, none⟩) J.ps.length kp, .int .i64 J.many] 35 + (Mine 29 1 (.slice none 0 0) 0 [] + (emp + (blk b1 (rfC J ⟨⟨o1, k1, o2, k2, o3, k3⟩, oc_, kc_, ow_, kw_, om_, km_, op_, kp_, ws_⟩) 35 + (blk b2 [.int .i64 0, .int .i64 0, .int .i64 0, .int .i64 0, .int .i64 0, .int .i64 0, .slice none 0 0, .slice none 0 0, .slice none 0 0, .slice none 0 0, .slice none 0 0, .slice none 0 0, .slice none 0 0, .int .i64 0] 35 + (blk bc (zs (J.sem.map (·.2)) ++ sc) 3 + (blk bm (mcs J.ms ++ sm) 86 + (blk bp (zs J.ps ++ sp) 3 + H))))))))
    rw [Mine.nil, HProp.emp_add, HProp.emp_add]
    exact Ent.auto
  rintro ⟨k, ⟨aw, kw⟩, q⟩ g ⟨hk4, hq⟩
  simp only at hk4 hq
  simp only [putAll]
  have hql : q.length = k := by have := congrArg List.length hq; simp only [List.length_map, List.length_take] at this; omega
  by_cases hlt : k < 4
  · obtain ⟨l, c, hj⟩ : ∃ l c, J.sem[k]? = some (l, c) := ⟨(J.sem[k]'(by omega)).1, (J.sem[k]'(by omega)).2, by rw [List.getElem?_eq_getElem (by omega)]⟩
    have hlK := ok.sk k l c hj
    obtain ⟨bW, oW, oL, kL, eW, cW, rW⟩ := hr.wtA hj
    simp only at eW
    subst eW
    refine walk ?_
    refine WPL.ent (Ent.ac (MineN 3 1 _)) ?_
    refine s_append (v := .slice none 0 0) rfl rfl (rW.ent InH.ent) (zs_one _) rfl ?_ rfl ?_
    · simp only [maxLen]; omega
    intro v'
    simp only [Nat.zero_add, List.nil_append]
    refine WPL.shape ?_
    rintro a5 c5 rfl _ _ _
    refine walk ?_
    refine s_buildInts (cs := [.slice _ _ _]) rfl rfl rfl rfl rfl ?_
    intro nb
    refine walk ?_
    refine s_append (v := .slice aw _ _) rfl rfl (Rd.blk0 (m := 1) (e := 29) rfl (by simp [maxLen])) rfl rfl ?_ rfl ?_
    · simp only [maxLen]; omega
    intro v'
    refine WPL.shape ?_
    rintro a6 c6 rfl _ _ _
    refine walk ?_
    refine s_store (v := .slice _ _ _) (cs' := [_, _, _, _, _, _, _, _, _, _, _, _, _, _]) rfl rfl rfl (by simp) rfl ?_
    refine walk ?_
    refine ⟨(k + 1, (a6, c6), q ++ [(.slice a5 l.length c5, l)]), asided, agreed, ?_, ⟨hlt, ?_⟩, by simp only; omega⟩
    · simp only [Ws.push, List.map_append, List.map_cons, List.map_nil]
      exact Ent.auto
    · simp only [List.map_append, List.map_cons, List.map_nil, hq]
      rw [List.take_add_one, List.getElem?_map, hj]
      rfl
  · obtain rfl : k = 4 := by omega
    refine WP.split (Mine 29 1 (.slice aw 4 kw) 4 (q.map (·.1))) (WP.shape ?_)
    rintro ao cap e_ _ _ _
    cases e_
    refine WP.open (by omega) ?_
    rintro bw sw rfl hsw
    have hq4 : q.map (·.2) = J.sem.map (·.1) := by rw [hq, List.take_of_length_le (by rw [List.length_map]; omega)]
    refine walk ?_
    refine s_storeV (vs := (rfC J ⟨⟨o1, k1, o2, k2, o3, k3⟩, some ⟨bc, 0, none⟩, kc, some ⟨bw, 0, none⟩, kw, some ⟨bm, 0, none⟩, km, some ⟨bp, 0, none⟩, kp, q.map (·.1)⟩)) rfl rfl rfl rfl rfl ?_
    refine walk ?_
    refine retR1 (.inr rfl) rfl (rv_cellA rfl Cells.blk0 rfl) ⟨bc, kc, sc, bw, kw, sw, bm, km, sm, bp, kp, sp, q, rfl, hq4, ?_⟩
    exact Ent.auto
end
end Go.Proofs.YtlhnmbajbhaaoaaGreat
namespace Go.Proofs.YtlhnmbajbhaaoaaGreat
open Go Go.SL
set_option linter.unusedSimpArgs false
set_option linter.unusedVariables false
set_option maxRecDepth 10000
set_option maxHeartbeats 4000000
theorem mod2 {l : List Mc} {k : Nat} {old : Mc} (h : l[k]? = some old) (hg : old.g = -1) : ((l.modify k fun x => { x with a := 0 }).modify k fun x => { x with p := -1 }) = l.modify k fun x => { x with a := 0, p := -1, g := -1 } := by
  apply List.ext_getElem?
  intro j
  simp only [List.getElem?_modify]
  by_cases e : k = j
  · subst e
    rw [h]
    simp only [Option.map_eq_map, Option.map_some, if_pos]
    rw [← hg]
  · simp only [if_neg e]
    cases l[j]? with
    | none => rfl
    | some y => rfl
attribute [local irreducible] WP WPL QSeq QBlk QRet Does Cell Cells Rd Mine Ent Aside RV Yield TabAt SemAt IdeAt
section
variable {B : World} {H F G F1 : HProp} {J : Ide} {a : RA} {n : Nt} {K : Int} {cnt : List Int} {V : Value} {t : RefA} {oc ow : Option Addr} {kc kw bm km bp kp k kk k2 : Nat} {sm sp ws : List Value} {old : Mc}
theorem rEnds0 [i1 : HasBlk H bm (mcs J.ms ++ sm) 86 F1] [i2 : HasBlk F1 bp (zs J.ps ++ sp) 3 F] (hV : V = rfV J ⟨t, oc, kc, ow, kw, some ⟨bm, 0, none⟩, km, some ⟨bp, 0, none⟩, kp, ws⟩) (hk10 : n.kind ≤ 10) (hr : RefC B F t J.tab) (ok : J.tab.ok K) (hK : K ≤ 100000) :
    Does Tryz.prog B 57 [V, noteV n] H fun r H' => OnR B F t J.tab (J) oc ow kc kw bm km bp kp sm sp ws r H' := by
  have hl1 : (mcs J.ms).length = J.ms.length * 4 := mcs_len _
  have hl2 : (zs J.ps).length = J.ps.length := zs_length _
  subst hV
  rw [i1.eq, i2.eq]
  refine Does.weak (R := fun r H' => ∃ G, Ent H' G ∧ OnR B F t J.tab (J) oc ow kc kw bm km bp kp sm sp ws r G) ?_ fun v H1 h => h
  refine fn_intro 122 Tryz.func57 rfl rfl rfl ?_
  refine walk ?_
  refine s_box rfl rfl rfl ?_
  intro b2
  refine walk ?_
  refine s_box (cs := nv n) rfl rfl rfl ?_
  intro b3
  refine s_alloc rfl ?_
  intro b4
  refine walk ?_
  refine s_storeV (vs := (rfC J ⟨t, oc, kc, ow, kw, some ⟨bm, 0, none⟩, km, some ⟨bp, 0, none⟩, kp, ws⟩)) rfl rfl rfl rfl rfl ?_
  refine walk ?_
  refine retR1 (.inr rfl) rfl (rv_cellA rfl Cells.blk0 rfl) (OnR.of (X := emp) (t' := t) ?_ ?_ (fun G hG => by rw [HProp.emp_add]; exact hG))
  · refine congrArg (fun c => Value.agg c.toArray) (rfC_len (J := J) (J' := J) rfl rfl ?_ ?_ rfl).symm
    · rfl
    · rfl
  · have e3 : (J).ms = J.ms := rfl
    have e4 : (J).ps = J.ps := rfl
    rw [e3, e4, HProp.emp_add]
    exact Ent.auto
theorem rEnds13 [i1 : HasBlk H bm (mcs J.ms ++ sm) 86 F1] [i2 : HasBlk F1 bp (zs J.ps ++ sp) 3 F] (hV : V = rfV J ⟨t, oc, kc, ow, kw, some ⟨bm, 0, none⟩, km, some ⟨bp, 0, none⟩, kp, ws⟩) (h13 : n.kind = 13) (hm : n.m = (k : Int)) (hk : k < J.ms.length) (hp : n.p = (kk : Int)) (hkk : kk < J.ps.length) (hr : RefC B F t J.tab) (ok : J.tab.ok K) (hK : K ≤ 100000) :
    Does Tryz.prog B 57 [V, noteV n] H fun r H' => OnR B F t J.tab (J.has n.m n.p 1 (-1)) oc ow kc kw bm km bp kp sm sp ws r H' := by
  have hl1 : (mcs J.ms).length = J.ms.length * 4 := mcs_len _
  have hl2 : (zs J.ps).length = J.ps.length := zs_length _
  subst hV
  rw [i1.eq, i2.eq]
  refine Does.weak (R := fun r H' => ∃ G, Ent H' G ∧ OnR B F t J.tab (J.has n.m n.p 1 (-1)) oc ow kc kw bm km bp kp sm sp ws r G) ?_ fun v H1 h => h
  refine fn_intro 122 Tryz.func57 rfl rfl rfl ?_
  refine walk ?_
  refine s_box rfl rfl rfl ?_
  intro b2
  refine walk ?_
  refine s_box (cs := nv n) rfl rfl rfl ?_
  intro b3
  refine s_alloc rfl ?_
  intro b4
  refine walk ?_
  (apply s_indexAddr (j := k) (o' := k * 4); (· exact rfl); (· exact rfl); (· omega); (· omega); (· omega); (· exact rfl))
  refine walk ?_
  refine s_store (v := .int .i64 1) (cs' := mcs (J.ms.modify k fun x => { x with a := 1 }) ++ sm) rfl rfl rfl ?_ (mcs_setA hk _ _) ?_
  · simp only [List.length_append, mcs_len, List.length_modify, List.length_cons, List.length_nil]; omega
  refine walk ?_
  (apply s_indexAddr (j := k) (o' := k * 4); (· exact rfl); (· exact rfl); (· omega); (· omega); (· omega); (· exact rfl))
  refine walk ?_
  refine s_store (v := .int .i64 n.p) (cs' := mcs ((J.ms.modify k fun x => { x with a := 1 }).modify k fun x => { x with p := n.p }) ++ sm) rfl rfl rfl ?_ (mcs_setP (by rw [List.length_modify]; exact hk) _ _) ?_
  · simp only [List.length_append, mcs_len, List.length_modify, List.length_cons, List.length_nil]; omega
  refine walk ?_
  (apply s_indexAddr (j := k) (o' := k * 4); (· exact rfl); (· exact rfl); (· omega); (· omega); (· omega); (· exact rfl))
  refine walk ?_
  refine s_store (v := .int .i64 (-1)) (cs' := mcs (((J.ms.modify k fun x => { x with a := 1 }).modify k fun x => { x with p := n.p }).modify k fun x => { x with g := (-1) }) ++ sm) rfl rfl rfl ?_ (mcs_setG (by rw [List.length_modify, List.length_modify]; exact hk) _ _) ?_
  · simp only [List.length_append, mcs_len, List.length_modify, List.length_cons, List.length_nil]; omega
  refine walk ?_
  rw [mod3]
  (apply s_indexAddr (j := kk) (o' := kk); (· exact rfl); (· exact rfl); (· omega); (· omega); (· omega); (· exact rfl))
  refine walk ?_
  refine s_store (v := .int .i64 n.m) (cs' := zs (J.ps.set kk n.m) ++ sp) rfl rfl rfl ?_ (by rw [List.set_append_left _ _ (by omega), zs_set]) ?_
  · simp only [List.length_append, List.length_cons, List.length_nil]; omega
  refine walk ?_
  refine s_storeV (vs := (rfC J ⟨t, oc, kc, ow, kw, some ⟨bm, 0, none⟩, km, some ⟨bp, 0, none⟩, kp, ws⟩)) rfl rfl rfl rfl rfl ?_
  refine walk ?_
  refine retR1 (.inr rfl) rfl (rv_cellA rfl Cells.blk0 rfl) (OnR.of (X := emp) (t' := t) ?_ ?_ (fun G hG => by rw [HProp.emp_add]; exact hG))
  · refine congrArg (fun c => Value.agg c.toArray) (rfC_len (J := J) (J' := J.has n.m n.p 1 (-1)) rfl rfl ?_ ?_ rfl).symm
    · show (List.modify _ _ _).length = _; rw [List.length_modify]
    · show (if 0 ≤ n.p then J.ps.set n.p.toNat n.m else J.ps).length = _; split <;> simp
  · have e3 : (J.has n.m n.p 1 (-1)).ms = J.ms.modify k fun x => { x with a := 1, p := n.p, g := -1 } := by show List.modify _ _ _ = _; rw [hm]; rfl
    have e4 : (J.has n.m n.p 1 (-1)).ps = J.ps.set kk n.m := by show (if 0 ≤ n.p then J.ps.set n.p.toNat n.m else J.ps) = _; rw [if_pos (by omega), hp]; rfl
    rw [e3, e4, HProp.emp_add]
    exact Ent.auto
theorem rEnds14 [i1 : HasBlk H bm (mcs J.ms ++ sm) 86 F1] [i2 : HasBlk F1 bp (zs J.ps ++ sp) 3 F] (hV : V = rfV J ⟨t, oc, kc, ow, kw, some ⟨bm, 0, none⟩, km, some ⟨bp, 0, none⟩, kp, ws⟩) (h14 : n.kind = 14) (hm : n.m = (k : Int)) (hk : k < J.ms.length) (hp : n.p = (kk : Int)) (hkk : kk < J.ps.length) (hold : J.ms[k]? = some old) (hg : old.g = -1) (hr : RefC B F t J.tab) (ok : J.tab.ok K) (hK : K ≤ 100000) :
    Does Tryz.prog B 57 [V, noteV n] H fun r H' => OnR B F t J.tab ((J.leaves n.m).pset n.p (-1)) oc ow kc kw bm km bp kp sm sp ws r H' := by
  have hl1 : (mcs J.ms).length = J.ms.length * 4 := mcs_len _
  have hl2 : (zs J.ps).length = J.ps.length := zs_length _
  subst hV
  rw [i1.eq, i2.eq]
  refine Does.weak (R := fun r H' => ∃ G, Ent H' G ∧ OnR B F t J.tab ((J.leaves n.m).pset n.p (-1)) oc ow kc kw bm km bp kp sm sp ws r G) ?_ fun v H1 h => h
  refine fn_intro 122 Tryz.func57 rfl rfl rfl ?_
  refine walk ?_
  refine s_box rfl rfl rfl ?_
  intro b2
  refine walk ?_
  refine s_box (cs := nv n) rfl rfl rfl ?_
  intro b3
  refine s_alloc rfl ?_
  intro b4
  refine walk ?_
  (apply s_indexAddr (j := k) (o' := k * 4); (· exact rfl); (· exact rfl); (· omega); (· omega); (· omega); (· exact rfl))
  refine walk ?_
  refine s_store (v := .int .i64 0) (cs' := mcs (J.ms.modify k fun x => { x with a := 0 }) ++ sm) rfl rfl rfl ?_ (mcs_setA hk _ _) ?_
  · simp only [List.length_append, mcs_len, List.length_modify, List.length_cons, List.length_nil]; omega
  refine walk ?_
  (apply s_indexAddr (j := k) (o' := k * 4); (· exact rfl); (· exact rfl); (· omega); (· omega); (· omega); (· exact rfl))
  refine walk ?_
  refine s_store (v := .int .i64 (-1)) (cs' := mcs ((J.ms.modify k fun x => { x with a := 0 }).modify k fun x => { x with p := -1 }) ++ sm) rfl rfl rfl ?_ (mcs_setP (by rw [List.length_modify]; exact hk) _ _) ?_
  · simp only [List.length_append, mcs_len, List.length_modify, List.length_cons, List.length_nil]; omega
  refine walk ?_
  rw [mod2 hold hg]
  (apply s_indexAddr (j := kk) (o' := kk); (· exact rfl); (· exact rfl); (· omega); (· omega); (· omega); (· exact rfl))
  refine walk ?_
  refine s_store (v := .int .i64 (-1)) (cs' := zs (J.ps.set kk (-1)) ++ sp) rfl rfl rfl ?_ (by rw [List.set_append_left _ _ (by omega), zs_set]) ?_
  · simp only [List.length_append, List.length_cons, List.length_nil]; omega
  refine walk ?_
  refine s_storeV (vs := (rfC J ⟨t, oc, kc, ow, kw, some ⟨bm, 0, none⟩, km, some ⟨bp, 0, none⟩, kp, ws⟩)) rfl rfl rfl rfl rfl ?_
  refine walk ?_
  refine retR1 (.inr rfl) rfl (rv_cellA rfl Cells.blk0 rfl) (OnR.of (X := emp) (t' := t) ?_ ?_ (fun G hG => by rw [HProp.emp_add]; exact hG))
  · refine congrArg (fun c => Value.agg c.toArray) (rfC_len (J := J) (J' := (J.leaves n.m).pset n.p (-1)) rfl rfl ?_ ?_ rfl).symm
    · show (List.modify _ _ _).length = _; rw [List.length_modify]
    · show (List.set _ _ _).length = _; rw [List.length_set]; rfl
  · have e3 : ((J.leaves n.m).pset n.p (-1)).ms = J.ms.modify k fun x => { x with a := 0, p := -1, g := -1 } := by show List.modify _ _ _ = _; rw [hm]; rfl
    have e4 : ((J.leaves n.m).pset n.p (-1)).ps = J.ps.set kk (-1) := by show List.set _ _ _ = _; rw [hp]; rfl
    rw [e3, e4, HProp.emp_add]
    exact Ent.auto
theorem rEnds16 [i1 : HasBlk H bm (mcs J.ms ++ sm) 86 F1] [i2 : HasBlk F1 bp (zs J.ps ++ sp) 3 F] (hV : V = rfV J ⟨t, oc, kc, ow, kw, some ⟨bm, 0, none⟩, km, some ⟨bp, 0, none⟩, kp, ws⟩) (h16 : n.kind = 16) (hr : RefC B F t J.tab) (ok : J.tab.ok K) (hK : K ≤ 100000) :
    Does Tryz.prog B 57 [V, noteV n] H fun r H' => OnR B F t J.tab (J) oc ow kc kw bm km bp kp sm sp ws r H' := by
  have hl1 : (mcs J.ms).length = J.ms.length * 4 := mcs_len _
  have hl2 : (zs J.ps).length = J.ps.length := zs_length _
  subst hV
  rw [i1.eq, i2.eq]
  refine Does.weak (R := fun r H' => ∃ G, Ent H' G ∧ OnR B F t J.tab (J) oc ow kc kw bm km bp kp sm sp ws r G) ?_ fun v H1 h => h
  refine fn_intro 122 Tryz.func57 rfl rfl rfl ?_
  refine walk ?_
  refine s_box rfl rfl rfl ?_
  intro b2
  refine walk ?_
  refine s_box (cs := nv n) rfl rfl rfl ?_
  intro b3
  refine s_alloc rfl ?_
  intro b4
  refine walk ?_
  refine s_storeV (vs := (rfC J ⟨t, oc, kc, ow, kw, some ⟨bm, 0, none⟩, km, some ⟨bp, 0, none⟩, kp, ws⟩)) rfl rfl rfl rfl rfl ?_
  refine walk ?_
  refine retR1 (.inr rfl) rfl (rv_cellA rfl Cells.blk0 rfl) (OnR.of (X := emp) (t' := t) ?_ ?_ (fun G hG => by rw [HProp.emp_add]; exact hG))
  · refine congrArg (fun c => Value.agg c.toArray) (rfC_len (J := J) (J' := J) rfl rfl ?_ ?_ rfl).symm
    · rfl
    · rfl
  · have e3 : (J).ms = J.ms := rfl
    have e4 : (J).ps = J.ps := rfl
    rw [e3, e4, HProp.emp_add]
    exact Ent.auto
theorem rEnds15 [i1 : HasBlk H bm (mcs J.ms ++ sm) 86 F1] [i2 : HasBlk F1 bp (zs J.ps ++ sp) 3 F] (hV : V = rfV J ⟨t, oc, kc, ow, kw, some ⟨bm, 0, none⟩, km, some ⟨bp, 0, none⟩, kp, ws⟩) (h15 : n.kind = 15) (hp : n.p = (kk : Int)) (hkk : kk < J.ps.length) (hv : J.pAt n.p = (k2 : Int)) (hk2 : k2 < J.ms.length) (hr : RefC B F t J.tab) (ok : J.tab.ok K) (hK : K ≤ 100000) :
    Does Tryz.prog B 57 [V, noteV n] H fun r H' => OnR B F t J.tab ((J.drops n.p).pset n.p (-2)) oc ow kc kw bm km bp kp sm sp ws r H' := by
  have hl1 : (mcs J.ms).length = J.ms.length * 4 := mcs_len _
  have hl2 : (zs J.ps).length = J.ps.length := zs_length _
  subst hV
  rw [i1.eq, i2.eq]
  refine Does.weak (R := fun r H' => ∃ G, Ent H' G ∧ OnR B F t J.tab ((J.drops n.p).pset n.p (-2)) oc ow kc kw bm km bp kp sm sp ws r G) ?_ fun v H1 h => h
  obtain ⟨kk', v', e1, e2, e5⟩ := pGet (I := J) (p := n.p) (by omega)
  obtain rfl : kk' = kk := by omega
  have hpk : J.ps[kk'] = (k2 : Int) := by rw [List.getElem?_eq_getElem hkk] at e2; injection e2 with e2; rw [e2, ← e5, hv]
  have hpt : (J.pAt n.p).toNat = k2 := by omega
  refine fn_intro 122 Tryz.func57 rfl rfl rfl ?_
  refine walk ?_
  refine s_box rfl rfl rfl ?_
  intro b2
  refine walk ?_
  refine s_box (cs := nv n) rfl rfl rfl ?_
  intro b3
  refine s_alloc rfl ?_
  intro b4
  refine walk ?_
  (refine wp_draw [10] (.look 0 (.look 1 (.look 2 (.look 3 (.look 4 (.look 5 (.look 6 (.look 7 (.look 8 (.look 9 (.act 10 .nil .stop))))))))))) (by kernel_rfl) ?_; refine dwP ?_; refine dwL ?_; refine dwP ?_; refine dwL ?_; refine dwP ?_; refine dwL ?_; (apply dw_pure; (· exact rfl); (· exact rfl); (· (intro G; (apply s_indexAddr (j := kk') (o' := kk'); (· exact rfl); (· exact rfl); (· omega); (· omega); (· omega); (· exact rfl)); exact looked))); refine dwL ?_; (apply dw_pure; (· exact rfl); (· exact rfl); (· (intro G; (apply s_indexAddr (j := k2) (o' := k2 * 4); (· exact rfl); (· exact rfl); (· omega); (· omega); (· omega); (· exact rfl)); exact looked))); refine dwP ?_; skip)
  refine dw_do0 rfl rfl ?_ dw_stop
  refine s_store (v := .int .i64 (-1)) (cs' := mcs (J.drops n.p).ms ++ sm) rfl rfl rfl ?_ (by show _ = mcs (List.modify _ _ _) ++ sm; rw [hpt]; exact mcs_setP hk2 _ _) ?_
  · simp only [List.length_append, List.length_cons, List.length_nil]; omega
  refine wpl_nil (qone0 ⟨(by refine st_past (by kernel_rfl) ?_; refine st_past (by kernel_rfl) ?_; refine st_past (by kernel_rfl) ?_; refine st_past (by kernel_rfl) ?_; exact st_nil), ?_⟩)
  (refine dw_nil ?_; skip)
  refine walk ?_
  (apply s_indexAddr (j := kk') (o' := kk'); (· exact rfl); (· exact rfl); (· omega); (· omega); (· omega); (· exact rfl))
  refine walk ?_
  refine s_store (v := .int .i64 (-2)) (cs' := zs (J.ps.set kk' (-2)) ++ sp) rfl rfl rfl ?_ (by rw [List.set_append_left _ _ (by omega), zs_set]) ?_
  · simp only [List.length_append, List.length_cons, List.length_nil]; omega
  refine walk ?_
  refine s_storeV (vs := (rfC J ⟨t, oc, kc, ow, kw, some ⟨bm, 0, none⟩, km, some ⟨bp, 0, none⟩, kp, ws⟩)) rfl rfl rfl rfl rfl ?_
  refine walk ?_
  refine retR1 (.inr rfl) rfl (rv_cellA rfl Cells.blk0 rfl) (OnR.of (X := emp) (t' := t) ?_ ?_ (fun G hG => by rw [HProp.emp_add]; exact hG))
  · refine congrArg (fun c => Value.agg c.toArray) (rfC_len (J := J) (J' := (J.drops n.p).pset n.p (-2)) rfl rfl ?_ ?_ rfl).symm
    · show (List.modify _ _ _).length = _; rw [List.length_modify]
    · show (List.set _ _ _).length = _; rw [List.length_set]; rfl
  · have e3 : ((J.drops n.p).pset n.p (-2)).ms = (J.drops n.p).ms := rfl
    have e4 : ((J.drops n.p).pset n.p (-2)).ps = J.ps.set kk' (-2) := by show List.set _ _ _ = _; rw [hp]; rfl
    rw [e3, e4, HProp.emp_add]
    exact Ent.auto
theorem rEnds12 [i1 : HasBlk H bm (mcs J.ms ++ sm) 86 F1] [i2 : HasBlk F1 bp (zs J.ps ++ sp) 3 F] (hV : V = rfV J ⟨t, oc, kc, ow, kw, some ⟨bm, 0, none⟩, km, some ⟨bp, 0, none⟩, kp, ws⟩) (h12 : n.kind = 12) (hm : n.m = (k : Int)) (hk : k < J.ms.length) (hr : RefC B F t J.tab) (ok : J.tab.ok K) (hK : K ≤ 100000) :
    Does Tryz.prog B 57 [V, noteV n] H fun r H' => OnR B F t J.tab ((J.tset n.g 1).leaves n.m) oc ow kc kw bm km bp kp sm sp ws r H' := by
  have hl1 : (mcs J.ms).length = J.ms.length * 4 := mcs_len _
  have hl2 : (zs J.ps).length = J.ps.length := zs_length _
  subst hV
  rw [i1.eq, i2.eq]
  refine Does.weak (R := fun r H' => ∃ G, Ent H' G ∧ OnR B F t J.tab ((J.tset n.g 1).leaves n.m) oc ow kc kw bm km bp kp sm sp ws r G) ?_ fun v H1 h => h
  refine fn_intro 122 Tryz.func57 rfl rfl rfl ?_
  refine walk ?_
  refine s_box rfl rfl rfl ?_
  intro b2
  refine walk ?_
  refine s_box (cs := nv n) rfl rfl rfl ?_
  intro b3
  refine s_alloc rfl ?_
  intro b4
  refine walk ?_
  (apply s_indexAddr (j := k) (o' := k * 4); (· exact rfl); (· exact rfl); (· omega); (· omega); (· omega); (· exact rfl))
  refine walk ?_
  refine s_store (v := .int .i64 0) (cs' := mcs (J.ms.modify k fun x => { x with a := 0 }) ++ sm) rfl rfl rfl ?_ (mcs_setA hk _ _) ?_
  · simp only [List.length_append, mcs_len, List.length_modify, List.length_cons, List.length_nil]; omega
  refine walk ?_
  (apply s_indexAddr (j := k) (o' := k * 4); (· exact rfl); (· exact rfl); (· omega); (· omega); (· omega); (· exact rfl))
  refine walk ?_
  refine s_store (v := .int .i64 (-1)) (cs' := mcs ((J.ms.modify k fun x => { x with a := 0 }).modify k fun x => { x with p := (-1) }) ++ sm) rfl rfl rfl ?_ (mcs_setP (by rw [List.length_modify]; exact hk) _ _) ?_
  · simp only [List.length_append, mcs_len, List.length_modify, List.length_cons, List.length_nil]; omega
  refine walk ?_
  (apply s_indexAddr (j := k) (o' := k * 4); (· exact rfl); (· exact rfl); (· omega); (· omega); (· omega); (· exact rfl))
  refine walk ?_
  refine s_store (v := .int .i64 (-1)) (cs' := mcs (((J.ms.modify k fun x => { x with a := 0 }).modify k fun x => { x with p := (-1) }).modify k fun x => { x with g := (-1) }) ++ sm) rfl rfl rfl ?_ (mcs_setG (by rw [List.length_modify, List.length_modify]; exact hk) _ _) ?_
  · simp only [List.length_append, mcs_len, List.length_modify, List.length_cons, List.length_nil]; omega
  refine walk ?_
  rw [mod3]
  refine walk ?_
  refine s_loadA (vs := RefA.cells t J.tab) rfl (Cells.blk (three rfl rfl rfl)) rfl rfl ?_
  refine walk ?_
  refine s_call rfl (rSet (K := K) (hr.ent InH.ent) ok hK) rfl ?_
  rintro _ _ ⟨X, t', rfl, rfl, hX⟩
  refine walk ?_
  refine s_storeA (vs := RefA.cells t' (J.tab.set n.g 1).2) rfl rfl rfl rfl (by show 6 + 3 ≤ 14; omega) rfl ?_
  refine walk ?_
  refine s_storeA (vs := rfC ((J.tset n.g 1).leaves n.m) ⟨t', oc, kc, ow, kw, some ⟨bm, 0, none⟩, km, some ⟨bp, 0, none⟩, kp, ws⟩) rfl ?_ rfl rfl (by show 0 + 14 ≤ 14; omega) rfl ?_
  · show Value.agg _ = Value.agg _
    have e1 : ((J.tset n.g 1).leaves n.m).ms.length = J.ms.length := by show (List.modify _ _ _).length = _; rw [List.length_modify]; rfl
    simp only [rfC, e1]
    rfl
  refine walk ?_
  refine retR1 (.inr rfl) rfl (rv_cellA rfl Cells.blk0 rfl) (OnR.of (X := X) (t' := t') ?_ ?_ hX)
  · rfl
  · have e3 : ((J.tset n.g 1).leaves n.m).ms = J.ms.modify k fun x => { x with a := 0, p := -1, g := -1 } := by show List.modify _ _ _ = _; rw [hm]; rfl
    have e4 : ((J.tset n.g 1).leaves n.m).ps = J.ps := rfl
    rw [e3, e4]
    exact Ent.auto
theorem rEnds11a [i1 : HasBlk H bm (mcs J.ms ++ sm) 86 F1] [i2 : HasBlk F1 bp (zs J.ps ++ sp) 3 F] (hV : V = rfV J ⟨t, oc, kc, ow, kw, some ⟨bm, 0, none⟩, km, some ⟨bp, 0, none⟩, kp, ws⟩) (h11 : n.kind = 11) (hx : n.x = 1) (hm : n.m = (k : Int)) (hk : k < J.ms.length) (hp : n.p = (kk : Int)) (hkk : kk < J.ps.length) (hv : J.pAt n.p = (k2 : Int)) (hk2 : k2 < J.ms.length) (hr : RefC B F t J.tab) (ok : J.tab.ok K) (hK : K ≤ 100000) :
    Does Tryz.prog B 57 [V, noteV n] H fun r H' => OnR B F t J.tab (((J.drops n.p).tset n.g 2).has n.m n.p 2 n.g) oc ow kc kw bm km bp kp sm sp ws r H' := by
  have hl1 : (mcs J.ms).length = J.ms.length * 4 := mcs_len _
  have hl2 : (zs J.ps).length = J.ps.length := zs_length _
  subst hV
  rw [i1.eq, i2.eq]
  refine Does.weak (R := fun r H' => ∃ G, Ent H' G ∧ OnR B F t J.tab (((J.drops n.p).tset n.g 2).has n.m n.p 2 n.g) oc ow kc kw bm km bp kp sm sp ws r G) ?_ fun v H1 h => h
  have hV : rfV J ⟨t, oc, kc, ow, kw, some ⟨bm, 0, none⟩, km, some ⟨bp, 0, none⟩, kp, ws⟩ = rfV (J.drops n.p) ⟨t, oc, kc, ow, kw, some ⟨bm, 0, none⟩, km, some ⟨bp, 0, none⟩, kp, ws⟩ := congrArg (fun c : List Value => Value.agg c.toArray) (rfC_len (J := J) (J' := J.drops n.p) rfl rfl (by show (List.modify _ _ _).length = _; rw [List.length_modify]) rfl rfl).symm
  obtain ⟨kk', v', e1, e2, e5⟩ := pGet (I := J) (p := n.p) (by omega)
  obtain rfl : kk' = kk := by omega
  have hpk : J.ps[kk'] = (k2 : Int) := by rw [List.getElem?_eq_getElem hkk] at e2; injection e2 with e2; rw [e2, ← e5, hv]
  have hpt : (J.pAt n.p).toNat = k2 := by omega
  refine fn_intro 122 Tryz.func57 rfl rfl rfl ?_
  refine walk ?_
  refine s_box rfl rfl rfl ?_
  intro b2
  refine walk ?_
  refine s_box (cs := nv n) rfl rfl rfl ?_
  intro b3
  refine s_alloc rfl ?_
  intro b4
  refine walk ?_
  (refine wp_draw [10] (.look 0 (.look 1 (.look 2 (.look 3 (.look 4 (.look 5 (.look 6 (.look 7 (.look 8 (.look 9 (.act 10 .nil .stop))))))))))) (by kernel_rfl) ?_; refine dwP ?_; refine dwL ?_; refine dwP ?_; refine dwL ?_; refine dwP ?_; refine dwL ?_; (apply dw_pure; (· exact rfl); (· exact rfl); (· (intro G; (apply s_indexAddr (j := kk') (o' := kk'); (· exact rfl); (· exact rfl); (· omega); (· omega); (· omega); (· exact rfl)); exact looked))); refine dwL ?_; (apply dw_pure; (· exact rfl); (· exact rfl); (· (intro G; (apply s_indexAddr (j := k2) (o' := k2 * 4); (· exact rfl); (· exact rfl); (· omega); (· omega); (· omega); (· exact rfl)); exact looked))); refine dwP ?_; skip)
  refine dw_do0 rfl rfl ?_ dw_stop
  refine s_store (v := .int .i64 (-1)) (cs' := mcs (J.drops n.p).ms ++ sm) rfl rfl rfl ?_ (by show _ = mcs (List.modify _ _ _) ++ sm; rw [hpt]; exact mcs_setP hk2 _ _) ?_
  · simp only [List.length_append, List.length_cons, List.length_nil]; omega
  refine wpl_nil (qone0 ⟨(by refine st_past (by kernel_rfl) ?_; refine st_past (by kernel_rfl) ?_; refine st_past (by kernel_rfl) ?_; refine st_past (by kernel_rfl) ?_; exact st_nil), ?_⟩)
  (refine dw_nil ?_; skip)
  refine walk ?_
  refine s_call rfl (rOn (J := J.drops n.p) (k := k) (kk := kk') (K := K) hV hm (by show k < (List.modify _ _ _).length; rw [List.length_modify]; exact hk) hp hkk (hr.ent Ent.auto) ok hK) rfl ?_
  rintro r1 H1 ⟨X, t', rfl, rfl, hX⟩
  refine walk ?_
  refine s_storeV (vs := rfC (((J.drops n.p).tset n.g 2).has n.m n.p 2 n.g) ⟨t', oc, kc, ow, kw, some ⟨bm, 0, none⟩, km, some ⟨bp, 0, none⟩, kp, ws⟩) rfl rfl rfl rfl rfl ?_
  refine walk ?_
  refine retR1 (.inr rfl) rfl (rv_cellA rfl Cells.blk0 rfl) (OnR.of (X := X) (t' := t') rfl Ent.auto hX)
theorem rEnds11b [i1 : HasBlk H bm (mcs J.ms ++ sm) 86 F1] [i2 : HasBlk F1 bp (zs J.ps ++ sp) 3 F] (hV : V = rfV J ⟨t, oc, kc, ow, kw, some ⟨bm, 0, none⟩, km, some ⟨bp, 0, none⟩, kp, ws⟩) (h11 : n.kind = 11) (hx : ¬ n.x = 1) (hm : n.m = (k : Int)) (hk : k < J.ms.length) (hp : n.p = (kk : Int)) (hkk : kk < J.ps.length) (hr : RefC B F t J.tab) (ok : J.tab.ok K) (hK : K ≤ 100000) :
    Does Tryz.prog B 57 [V, noteV n] H fun r H' => OnR B F t J.tab (((J).tset n.g 2).has n.m n.p 2 n.g) oc ow kc kw bm km bp kp sm sp ws r H' := by
  have hl1 : (mcs J.ms).length = J.ms.length * 4 := mcs_len _
  have hl2 : (zs J.ps).length = J.ps.length := zs_length _
  subst hV
  rw [i1.eq, i2.eq]
  refine Does.weak (R := fun r H' => ∃ G, Ent H' G ∧ OnR B F t J.tab (((J).tset n.g 2).has n.m n.p 2 n.g) oc ow kc kw bm km bp kp sm sp ws r G) ?_ fun v H1 h => h
  refine fn_intro 122 Tryz.func57 rfl rfl rfl ?_
  refine walk ?_
  refine s_box rfl rfl rfl ?_
  intro b2
  refine walk ?_
  refine s_box (cs := nv n) rfl rfl rfl ?_
  intro b3
  refine s_alloc rfl ?_
  intro b4
  refine walk ?_
  refine s_call rfl (rOn (J := J) (k := k) (kk := kk) (K := K) rfl hm hk hp hkk (hr.ent Ent.auto) ok hK) rfl ?_
  rintro r1 H1 ⟨X, t', rfl, rfl, hX⟩
  refine walk ?_
  refine s_storeV (vs := rfC (((J).tset n.g 2).has n.m n.p 2 n.g) ⟨t', oc, kc, ow, kw, some ⟨bm, 0, none⟩, km, some ⟨bp, 0, none⟩, kp, ws⟩) rfl rfl rfl rfl rfl ?_
  refine walk ?_
  refine retR1 (.inr rfl) rfl (rv_cellA rfl Cells.blk0 rfl) (OnR.of (X := X) (t' := t') rfl Ent.auto hX)
end
end Go.Proofs.YtlhnmbajbhaaoaaGreat
namespace Go.Proofs.YtlhnmbajbhaaoaaGreat
open Go Go.SL
set_option linter.unusedSimpArgs false
set_option linter.unusedVariables false
set_option maxRecDepth 10000
set_option maxHeartbeats 4000000
section
variable {J : Ide} {n : Nt} {K : Int} {cnt : List Int}
/-- One note more. -/
abbrev Ide.nx (J : Ide) : Ide := { J with many := J.many + 1 }
theorem rngM (ok : J.ok K) (h : mayB J n = true) (hk : (109 : UInt8) ∈ fK n.kind) : ∃ k : Nat, n.m = (k : Int) ∧ k < J.ms.length := by
  obtain ⟨hk16, hr, hy⟩ := mayB_of h
  obtain ⟨rg, rp, rm, rx⟩ := right_of hr
  have sl := ok.sl
  have := rm hk
  have hml := ok.ml
  exact ⟨n.m.toNat, by omega, by omega⟩
theorem rngP (ok : J.ok K) (h : mayB J n = true) (hk : (112 : UInt8) ∈ fK n.kind) : ∃ k : Nat, n.p = (k : Int) ∧ k < J.ps.length := by
  obtain ⟨hk16, hr, hy⟩ := mayB_of h
  obtain ⟨rg, rp, rm, rx⟩ := right_of hr
  have sl := ok.sl
  have := rp hk
  have hpl := ok.pl
  exact ⟨n.p.toNat, by omega, by omega⟩
theorem kept_of (ok : J.ok K) (h : J.kept n.p = true) {kk : Nat} (hp : n.p = (kk : Int)) (hkk : kk < J.ps.length) : ∃ k2 : Nat, J.pAt n.p = (k2 : Int) ∧ k2 < J.ms.length := by
  unfold Ide.kept at h
  rw [Bool.and_eq_true, decide_eq_true_eq] at h
  obtain ⟨kk', v, e1, e2, e3⟩ := pGet (I := J) (p := n.p) (by omega)
  have h2 := ok.pm v (List.mem_of_getElem? e2)
  have hml := ok.ml
  exact ⟨(J.pAt n.p).toNat, by omega, by omega⟩
theorem step1 (e : n.kind = 1) : stepI J n = { J.nx with tab := J.tab.make.2.2 } := by
  obtain ⟨kind, g, p, m, x⟩ := n; simp only at e; subst e; rfl
theorem step2 (e : n.kind = 2) : stepI J n = (J.nx.tset n.g 2).has n.m n.p 2 n.g := by
  obtain ⟨kind, g, p, m, x⟩ := n; simp only at e; subst e; rfl
theorem step3 (e : n.kind = 3 ∨ n.kind = 4) : stepI J n = (J.nx.tset n.g 1).has n.m n.p 1 (-1) := by
  obtain ⟨kind, g, p, m, x⟩ := n; simp only at e; rcases e with e | e <;> (subst e; rfl)
theorem step9 (e : n.kind = 9) : stepI J n = (J.nx.tset n.g 0).has n.m n.p 1 (-1) := by
  obtain ⟨kind, g, p, m, x⟩ := n; simp only at e; subst e; rfl
theorem step12 (e : n.kind = 12) : stepI J n = (J.nx.tset n.g 1).leaves n.m := by
  obtain ⟨kind, g, p, m, x⟩ := n; simp only at e; subst e; rfl
theorem step13 (e : n.kind = 13) : stepI J n = J.nx.has n.m n.p 1 (-1) := by
  obtain ⟨kind, g, p, m, x⟩ := n; simp only at e; subst e; rfl
theorem step14 (e : n.kind = 14) : stepI J n = (J.nx.leaves n.m).pset n.p (-1) := by
  obtain ⟨kind, g, p, m, x⟩ := n; simp only at e; subst e; rfl
theorem step15 (e : n.kind = 15) : stepI J n = (J.nx.drops n.p).pset n.p (-2) := by
  obtain ⟨kind, g, p, m, x⟩ := n; simp only at e; subst e; rfl
theorem step16 (e : n.kind = 16) : stepI J n = J.nx := by
  obtain ⟨kind, g, p, m, x⟩ := n; simp only at e; subst e; rfl
theorem step11a (e : n.kind = 11) (hx : n.x = 1) : stepI J n = ((J.nx.drops n.p).tset n.g 2).has n.m n.p 2 n.g := by
  obtain ⟨kind, g, p, m, x⟩ := n; simp only at e hx; subst e hx; rfl
theorem step11b (e : n.kind = 11) (hx : ¬ n.x = 1) : stepI J n = (J.nx.tset n.g 2).has n.m n.p 2 n.g := by
  obtain ⟨kind, g, p, m, x⟩ := n; simp only at e hx; subst e
  show (Ide.nx ((Ide.tset (if x = 1 then J.drops p else J) g 2).has m p 2 g)) = _
  rw [if_neg hx]
  rfl
/-- A call begins: the Ms. -/
theorem step10 (e : n.kind = 10) : stepI J n = (({ J.nx with ms := J.ms.modify n.m.toNat fun x => { x with b := n.p } } : Ide).tset n.g 4).has n.m n.p 3 n.g := by
  obtain ⟨kind, g, p, m, x⟩ := n; simp only at e; subst e
  show (⟨J.c, _, J.sem, (J.ms.modify m.toNat fun y => { y with a := 3, p := p, g := g }).modify m.toNat fun y => { y with b := p }, _, J.many + 1⟩ : Ide) = ⟨J.c, _, J.sem, (J.ms.modify m.toNat fun y => { y with b := p }).modify m.toNat fun y => { y with a := 3, p := p, g := g }, _, J.many + 1⟩
  congr 1
  apply List.ext_getElem?
  intro j
  simp only [List.getElem?_modify]
  cases J.ms[j]? with
  | none => rfl
  | some y => simp only [Option.map_eq_map, Option.map_some]; split <;> rfl
theorem sem_set {S : SemS} {j : Nat} {l : List Int} {c : Int} {f : List Int × Int → List Int × Int} (h : S[j]? = some (l, c)) : S.modify j f = S.set j (f (l, c)) := by
  apply List.ext_getElem?
  intro i
  rw [List.getElem?_modify, List.getElem?_set]
  by_cases e : j = i
  · subst e
    have := (List.getElem?_eq_some_iff.1 h).1
    rw [h]
    simp [this]
  · simp [e]
theorem step5 (inv : Inv J cnt) (ok : J.ok K) (hm : mayB J n = true) (e : n.kind = 5) : ∃ (j : Nat) (l : List Int) (c : Int), n.x = (j : Int) ∧ j < 4 ∧ J.sem[j]? = some (l, c) ∧ 0 < c ∧ c ≤ 1073741824 ∧ stepI J n = { J.nx with sem := J.sem.set j (l, c - 1) } := by
  obtain ⟨hk16, hr, hy⟩ := mayB_of hm
  obtain ⟨rg, rp, rm, rx⟩ := right_of hr
  have sl := ok.sl
  have hml := ok.ml
  obtain ⟨kind, g, p, m, x⟩ := n
  simp only at e; subst e
  simp only at rg rp rm rx
  obtain ⟨k, old, rfl, hk, hA⟩ := mGet (I := J) (m := m) (by have := rm (by decide); omega)
  have hy' : (runsB J ⟨5, g, p, k, x⟩ && decide (0 < J.count x)) = true := hy
  simp only [runsB, hA, Bool.and_eq_true, decide_eq_true_eq] at hy'
  obtain ⟨⟨a1, a2, a3⟩, hc⟩ := hy'
  obtain ⟨j, l, c, rfl, hj4, hj, _, hcc⟩ := sGet ok.sl (rx (by decide))
  rw [hcc] at hc
  have hg := rg (by decide)
  subst a3
  have hst := stat_runs inv hk a1 hg
  have hnw := (inv.st old.g hg.1 hg.2).2.2
  rw [hst, if_neg (by omega)] at hnw
  have hac : (acqS J.sem (j : Int) old.g).1 = J.sem.modify j fun r => (r.1, c - 1) := by
    unfold acqS
    rw [if_neg (by omega), nWaits_zero hnw]
    simp only [Option.isSome_none, Bool.false_eq_true, if_false, Int.toNat_natCast, hj, if_pos hc, countS]
  obtain ⟨s1, s2, s3, s4, s5⟩ := inv.se j l c hj
  refine ⟨j, l, c, rfl, hj4, hj, hc, s5, ?_⟩
  show (⟨J.c, J.tab, (acqS J.sem (j : Int) old.g).1, J.ms, J.ps, J.many + 1⟩ : Ide) = ⟨J.c, J.tab, J.sem.set j (l, c - 1), J.ms, J.ps, J.many + 1⟩
  rw [hac, sem_set hj]
theorem step6 (inv : Inv J cnt) (ok : J.ok K) (hm : mayB J n = true) (e : n.kind = 6) : ∃ (j : Nat) (l : List Int) (c : Int), n.x = (j : Int) ∧ j < 4 ∧ J.sem[j]? = some (l, c) ∧ stepI J n = (({ J.nx with sem := J.sem.set j (l ++ [n.g], c) } : Ide).tset n.g 3).has n.m n.p 1 (-1) := by
  obtain ⟨hk16, hr, hy⟩ := mayB_of hm
  obtain ⟨rg, rp, rm, rx⟩ := right_of hr
  have sl := ok.sl
  have hml := ok.ml
  obtain ⟨kind, g, p, m, x⟩ := n
  simp only at e; subst e
  simp only at rg rp rm rx
  obtain ⟨k, old, rfl, hk, hA⟩ := mGet (I := J) (m := m) (by have := rm (by decide); omega)
  have hy' : (runsB J ⟨6, g, p, k, x⟩ && decide (J.count x = 0)) = true := hy
  simp only [runsB, hA, Bool.and_eq_true, decide_eq_true_eq] at hy'
  obtain ⟨⟨a1, a2, a3⟩, hc⟩ := hy'
  obtain ⟨j, l, c, rfl, hj4, hj, _, hcc⟩ := sGet ok.sl (rx (by decide))
  rw [hcc] at hc
  have hg := rg (by decide)
  subst a3
  have hst := stat_runs inv hk a1 hg
  have hnw := (inv.st old.g hg.1 hg.2).2.2
  rw [hst, if_neg (by omega)] at hnw
  have hac : (acqS J.sem (j : Int) old.g).1 = J.sem.modify j fun r => (r.1 ++ [old.g], r.2) := by
    unfold acqS
    rw [if_neg (by omega), nWaits_zero hnw]
    simp only [Option.isSome_none, Bool.false_eq_true, if_false, Int.toNat_natCast, hj, if_neg (show ¬ 0 < c by omega), pushS]
  refine ⟨j, l, c, rfl, hj4, hj, ?_⟩
  show (⟨J.c, (J.tab.set old.g 3).2, (acqS J.sem (j : Int) old.g).1, _, _, J.many + 1⟩ : Ide) = ⟨J.c, (J.tab.set old.g 3).2, J.sem.set j (l ++ [old.g], c), _, _, J.many + 1⟩
  rw [hac, sem_set hj]
  rfl
theorem step7 (inv : Inv J cnt) (ok : J.ok K) (hm : mayB J n = true) (e : n.kind = 7) : ∃ (j : Nat) (l : List Int) (c : Int), n.x = (j : Int) ∧ j < 4 ∧ J.sem[j]? = some (l, c) ∧ 0 ≤ c ∧ c < 1073741824 ∧ stepI J n = { J.nx with sem := J.sem.set j (l, c + 1) } := by
  obtain ⟨hk16, hr, hy⟩ := mayB_of hm
  obtain ⟨rg, rp, rm, rx⟩ := right_of hr
  have sl := ok.sl
  obtain ⟨kind, g, p, m, x⟩ := n
  simp only at e; subst e
  simp only at rg rp rm rx
  have hy' : (runsB J ⟨7, g, p, m, x⟩ && (J.first x (-1) && decide (J.count x < 1073741824))) = true := hy
  simp only [Bool.and_eq_true, decide_eq_true_eq] at hy'
  obtain ⟨_, hfi, hc⟩ := hy'
  obtain ⟨j, l, c, rfl, hj4, hj, hro, hcc⟩ := sGet ok.sl (rx (by decide))
  rw [hcc] at hc
  have hl0 : l = [] := by
    unfold Ide.first at hfi
    rw [if_pos (by omega), hro] at hfi
    exact of_decide_eq_true hfi
  subst hl0
  have hac : (relS J.sem (j : Int)).1 = J.sem.modify j fun r => (r.1, c + 1) := by
    unfold relS
    rw [if_neg (by omega)]
    simp only [Int.toNat_natCast, hj, if_neg (show ¬ c = 1073741824 by omega), countS]
  obtain ⟨s1, s2, s3, s4, s5⟩ := inv.se j [] c hj
  refine ⟨j, [], c, rfl, hj4, hj, s4, hc, ?_⟩
  show (⟨J.c, J.tab, (relS J.sem (j : Int)).1, J.ms, J.ps, J.many + 1⟩ : Ide) = ⟨J.c, J.tab, J.sem.set j ([], c + 1), J.ms, J.ps, J.many + 1⟩
  rw [hac, sem_set hj]
theorem step8 (inv : Inv J cnt) (ok : J.ok K) (hm : mayB J n = true) (e : n.kind = 8) : ∃ (j : Nat) (t : List Int) (c : Int), n.x = (j : Int) ∧ j < 4 ∧ J.sem[j]? = some (n.g :: t, c) ∧ stepI J n = Ide.tset { J.nx with sem := J.sem.set j (t, c) } n.g 1 := by
  obtain ⟨hk16, hr, hy⟩ := mayB_of hm
  obtain ⟨rg, rp, rm, rx⟩ := right_of hr
  have sl := ok.sl
  obtain ⟨kind, g, p, m, x⟩ := n
  simp only at e; subst e
  simp only at rg rp rm rx
  have hg := rg (by decide)
  have hy' : (decide ((J.mAt m).a = 2) && J.first x g) = true := hy
  simp only [Bool.and_eq_true, decide_eq_true_eq] at hy'
  obtain ⟨_, hfi⟩ := hy'
  obtain ⟨j, l, c, rfl, hj4, hj, hro, hcc⟩ := sGet ok.sl (rx (by decide))
  obtain ⟨t, rfl⟩ : ∃ t, l = g :: t := by
    unfold Ide.first at hfi
    rw [if_neg (by omega), hro] at hfi
    have := of_decide_eq_true hfi
    cases l with
    | nil => simp at this
    | cons y t => simp at this; exact ⟨t, by rw [this]⟩
  have hac : (relS J.sem (j : Int)).1 = J.sem.modify j fun r => (t, c) := by
    unfold relS
    rw [if_neg (by omega)]
    simp only [Int.toNat_natCast, hj]
    rw [modify_at hj]
  refine ⟨j, t, c, rfl, hj4, hj, ?_⟩
  show (⟨J.c, (J.tab.set g 1).2, (relS J.sem (j : Int)).1, J.ms, J.ps, J.many + 1⟩ : Ide) = ⟨J.c, (J.tab.set g 1).2, J.sem.set j (t, c), J.ms, J.ps, J.many + 1⟩
  rw [hac, sem_set hj]
end
attribute [local irreducible] WP WPL QSeq QBlk QRet Does Cell Cells Rd Mine Ent Aside RV Yield TabAt SemAt IdeAt
section
variable {B : World} {H F G : HProp} {J : Ide} {a : RA} {n : Nt} {K : Int} {cnt : List Int}
theorem ws_rd {q : List (Value × List Int)} {S : SemS} (hq : q.map (·.2) = S.map (·.1)) (hws : ∀ p ∈ q, Rd B (Ws q) 1 p.1 p.2.length (zs p.2) ∧ ∃ ao cap, p.1 = .slice ao p.2.length cap ∧ p.2.length ≤ cap ∧ cap ≤ maxLen) {i : Nat} {l : List Int} {c : Int} (hi : S[i]? = some (l, c)) :
    ∃ o k, q[i]? = some (.slice o l.length k, l) ∧ Rd B (Ws q) 1 (.slice o l.length k) l.length (zs l) ∧ l.length ≤ k ∧ k ≤ maxLen := by
  have h1 : (q.map (·.2))[i]? = some l := by rw [hq, List.getElem?_map, hi]; rfl
  rw [List.getElem?_map] at h1
  obtain ⟨⟨v, l'⟩, h2, h3⟩ := Option.map_eq_some_iff.1 h1
  simp only at h3
  subst h3
  obtain ⟨r1, ao, cap, e, r2, r3⟩ := hws _ (List.mem_of_getElem? h2)
  simp only at e r1 r2
  subst e
  exact ⟨ao, cap, h2, r1, r2, r3⟩
/-- What is answered, where it lies in rows of one's own. -/
theorem own_fin {J : Ide} {t : RefA} {bc kc bw kw bm km bp kp : Nat} {sc sw sm sp ws cn : List Value} {X H0 : HProp} {r : Value} (hcn : zs (J.sem.map (·.2)) = cn) (h1 : r = rfV J ⟨t, some ⟨bc, 0, none⟩, kc, some ⟨bw, 0, none⟩, kw, some ⟨bm, 0, none⟩, km, some ⟨bp, 0, none⟩, kp, ws⟩)
    (h2 : Ent H0 (blk bc (cn ++ sc) 3 + (blk bw (ws ++ sw) 29 + (blk bm (mcs J.ms ++ sm) 86 + (blk bp (zs J.ps ++ sp) 3 + (X + H)))))) (ht : RefC B (X + G) t J.tab) (hs : J.sem.length = 4) (hw : ws.length = 4) (hm : J.ms.length ≤ maxLen) (hp : J.ps.length ≤ maxLen)
    (hq : ∀ (i : Nat) (l : List Int) (c : Int), J.sem[i]? = some (l, c) → ∃ o k, ws[i]? = some (.slice o l.length k) ∧ Rd B (X + G) 1 (.slice o l.length k) l.length (zs l)) : ∃ G', Ent H0 G' ∧ ∃ X a', r = rfV J a' ∧ G' = X + H ∧ RI B (X + G) J a' := by
  subst hcn
  refine ⟨_, h2, blk bc (zs (J.sem.map (·.2)) ++ sc) 3 + (blk bw (ws ++ sw) 29 + (blk bm (mcs J.ms ++ sm) 86 + (blk bp (zs J.ps ++ sp) 3 + X))), _, h1, by simp only [HProp.add_assoc], ?_⟩
  have := RI.own (bc := bc) (kc := kc) (bw := bw) (kw := kw) (bm := bm) (km := km) (bp := bp) (kp := kp) (sc := sc) (sw := sw) (sm := sm) (sp := sp) ht hs hw hm hp hq
  simp only [HProp.add_assoc]
  exact this
end
end Go.Proofs.YtlhnmbajbhaaoaaGreat
namespace Go.Proofs.YtlhnmbajbhaaoaaGreat
open Go Go.SL
set_option linter.unusedSimpArgs false
set_option linter.unusedVariables false
set_option maxRecDepth 10000
set_option maxHeartbeats 4000000
attribute [local irreducible] WP WPL QSeq QBlk QRet Does Cell Cells Rd Mine Ent Aside RV Yield TabAt SemAt IdeAt
section
variable {B : World} {H F G : HProp} {J : Ide} {a : RA} {n : Nt} {K : Int} {cnt : List Int}
theorem map1_set {S : SemS} {j : Nat} {l : List Int} {c c' : Int} (h : S[j]? = some (l, c)) : (S.set j (l, c')).map (·.1) = S.map (·.1) := by
  apply List.ext_getElem?
  intro i
  rw [List.getElem?_map, List.getElem?_map, List.getElem?_set]
  by_cases e : j = i
  · subst e
    have := (List.getElem?_eq_some_iff.1 h).1
    rw [h]; simp [this]
  · simp [e]
theorem map2_set {S : SemS} {j : Nat} {l l' : List Int} {c : Int} (h : S[j]? = some (l, c)) : (S.set j (l', c)).map (·.2) = S.map (·.2) := by
  apply List.ext_getElem?
  intro i
  rw [List.getElem?_map, List.getElem?_map, List.getElem?_set]
  by_cases e : j = i
  · subst e
    have := (List.getElem?_eq_some_iff.1 h).1
    rw [h]; simp [this]
  · simp [e]
/-- What a step answers. -/
def DoR (B : World) (H G : HProp) (J : Ide) (r : Value) (H' : HProp) : Prop := ∃ X a', r = rfV J a' ∧ H' = X + H ∧ RI B (X + G) J a'
theorem do2 (hr0 : RI B G J a) (E : Ent H G) (ok : J.ok K) (hK : K ≤ 90000) (hmay : mayB J n = true) (e : n.kind = 2) (hM : ∃ k : Nat, n.m = (k : Int) ∧ k < J.ms.length) (hP : ∃ k : Nat, n.p = (k : Int) ∧ k < J.ps.length) :
    Does Tryz.prog B 24 [rfV J a, noteV n] H fun r H' => DoR B H G (stepI J n) r H' := by
  have hst := step2 (J := J) e
  obtain ⟨k, hm, hk⟩ := hM
  obtain ⟨kk, hp, hkk⟩ := hP
  have hr := hr0.ent E
  have hK1 : K + 1 ≤ 100000 := by omega
  have hK : K ≤ 100000 := by omega
  have hml := ok.ml
  have hpl := ok.pl
  have hsl := ok.sl
  have htl := ok.tl
  have hmany := ok.many
  have hcc := ok.c
  obtain ⟨_, c1, c2, c3, c4, c5, c6, _⟩ := hcc
  have hmx : J.ms.length ≤ maxLen := by simp only [maxLen]; omega
  have hpx : J.ps.length ≤ maxLen := by simp only [maxLen]; omega
  rw [hst]
  obtain ⟨⟨o1_, k1_, o2_, k2_, o3_, k3_⟩, oc_, kc_, ow_, kw_, om_, km_, op_, kp_, ws_⟩ := a
  refine Does.weak (R := fun r H' => ∃ G', Ent H' G' ∧ DoR B H G _ r G') ?_ fun v H1 h => h
  refine fn_intro 122 Tryz.func24 rfl rfl rfl ?_
  refine walk ?_
  refine s_box rfl rfl rfl ?_
  intro b2
  refine walk ?_
  refine s_box (cs := nv n) rfl rfl rfl ?_
  intro b3
  refine s_alloc rfl ?_
  intro b4
  refine walk ?_
  refine s_call rfl (rCopied (hr.ent InH.ent) ok hK) rfl ?_
  rintro _ _ ⟨bc, kc, sc, bw, kw, sw, bm, km, sm, bp, kp, sp, q, rfl, hq, rfl⟩
  refine WPL.split (Ws q) (WPL.under fun w_ hw_ => ⟨_, hw_, ?_⟩)
  have hws := Ws.rds ⟨w_, hw_.ent (Ent.drop_right _ _)⟩
  clear hw_ w_
  have hql : q.length = 4 := by have := congrArg List.length hq; simp only [List.length_map] at this; omega
  refine walk ?_
  refine s_storeV (vs := (rfC J ⟨⟨o1_, k1_, o2_, k2_, o3_, k3_⟩, some ⟨bc, 0, none⟩, kc, some ⟨bw, 0, none⟩, kw, some ⟨bm, 0, none⟩, km, some ⟨bp, 0, none⟩, kp, q.map (·.1)⟩)) rfl rfl rfl rfl rfl ?_
  refine walk ?_
  refine s_store (v := .int .i64 (J.many + 1)) (cs' := rfC J.nx ⟨⟨o1_, k1_, o2_, k2_, o3_, k3_⟩, some ⟨bc, 0, none⟩, kc, some ⟨bw, 0, none⟩, kw, some ⟨bm, 0, none⟩, km, some ⟨bp, 0, none⟩, kp, q.map (·.1)⟩) rfl rfl rfl (by simp) rfl ?_
  refine walk ?_
  refine s_call rfl (rOn (J := J.nx) (k := k) (kk := kk) (K := K) rfl hm hk hp hkk (hr.tab.ent Ent.auto) ok.tab hK) rfl ?_
  rintro _ _ ⟨X, t', rfl, rfl, hX⟩
  refine walk ?_
  refine s_storeV (vs := rfC ((J.nx.tset n.g 2).has n.m n.p 2 (n.g)) ⟨t', some ⟨bc, 0, none⟩, kc, some ⟨bw, 0, none⟩, kw, some ⟨bm, 0, none⟩, km, some ⟨bp, 0, none⟩, kp, q.map (·.1)⟩) rfl rfl rfl rfl rfl ?_
  refine walk ?_
  refine retR1 (.inr rfl) rfl (rv_cellA rfl Cells.blk0 rfl) (own_fin (J := (J.nx.tset n.g 2).has n.m n.p 2 (n.g)) (t := t') (sc := sc) (sw := sw) (sm := sm) (sp := sp) (ws := q.map (·.1)) (X := X + Ws q) (cn := zs (J.sem.map (·.2))) rfl rfl ?_ ?_ hsl (by rw [List.length_map]; exact hql) ?_ ?_ ?_)
  · simp only [HProp.add_assoc]; exact Ent.auto
  · exact (hX G hr0.tab).ent (by rw [HProp.add_assoc]; exact Ent.auto)
  · show (List.modify _ _ _).length ≤ _; rw [List.length_modify]; exact hmx
  · show (if 0 ≤ n.p then J.ps.set n.p.toNat n.m else J.ps).length ≤ _; split <;> simpa using hpx
  · intro i l c hi
    obtain ⟨o, k, e1, e2, _⟩ := ws_rd hq hws hi
    exact ⟨o, k, by rw [List.getElem?_map, e1]; rfl, e2.ent (by rw [HProp.add_assoc]; exact Ent.auto)⟩
theorem do3 (hr0 : RI B G J a) (E : Ent H G) (ok : J.ok K) (hK : K ≤ 90000) (hmay : mayB J n = true) (e : n.kind = 3) (hM : ∃ k : Nat, n.m = (k : Int) ∧ k < J.ms.length) (hP : ∃ k : Nat, n.p = (k : Int) ∧ k < J.ps.length) :
    Does Tryz.prog B 24 [rfV J a, noteV n] H fun r H' => DoR B H G (stepI J n) r H' := by
  have hst := step3 (J := J) (.inl e)
  obtain ⟨k, hm, hk⟩ := hM
  obtain ⟨kk, hp, hkk⟩ := hP
  have hr := hr0.ent E
  have hK1 : K + 1 ≤ 100000 := by omega
  have hK : K ≤ 100000 := by omega
  have hml := ok.ml
  have hpl := ok.pl
  have hsl := ok.sl
  have htl := ok.tl
  have hmany := ok.many
  have hcc := ok.c
  obtain ⟨_, c1, c2, c3, c4, c5, c6, _⟩ := hcc
  have hmx : J.ms.length ≤ maxLen := by simp only [maxLen]; omega
  have hpx : J.ps.length ≤ maxLen := by simp only [maxLen]; omega
  rw [hst]
  obtain ⟨⟨o1_, k1_, o2_, k2_, o3_, k3_⟩, oc_, kc_, ow_, kw_, om_, km_, op_, kp_, ws_⟩ := a
  refine Does.weak (R := fun r H' => ∃ G', Ent H' G' ∧ DoR B H G _ r G') ?_ fun v H1 h => h
  refine fn_intro 122 Tryz.func24 rfl rfl rfl ?_
  refine walk ?_
  refine s_box rfl rfl rfl ?_
  intro b2
  refine walk ?_
  refine s_box (cs := nv n) rfl rfl rfl ?_
  intro b3
  refine s_alloc rfl ?_
  intro b4
  refine walk ?_
  refine s_call rfl (rCopied (hr.ent InH.ent) ok hK) rfl ?_
  rintro _ _ ⟨bc, kc, sc, bw, kw, sw, bm, km, sm, bp, kp, sp, q, rfl, hq, rfl⟩
  refine WPL.split (Ws q) (WPL.under fun w_ hw_ => ⟨_, hw_, ?_⟩)
  have hws := Ws.rds ⟨w_, hw_.ent (Ent.drop_right _ _)⟩
  clear hw_ w_
  have hql : q.length = 4 := by have := congrArg List.length hq; simp only [List.length_map] at this; omega
  refine walk ?_
  refine s_storeV (vs := (rfC J ⟨⟨o1_, k1_, o2_, k2_, o3_, k3_⟩, some ⟨bc, 0, none⟩, kc, some ⟨bw, 0, none⟩, kw, some ⟨bm, 0, none⟩, km, some ⟨bp, 0, none⟩, kp, q.map (·.1)⟩)) rfl rfl rfl rfl rfl ?_
  refine walk ?_
  refine s_store (v := .int .i64 (J.many + 1)) (cs' := rfC J.nx ⟨⟨o1_, k1_, o2_, k2_, o3_, k3_⟩, some ⟨bc, 0, none⟩, kc, some ⟨bw, 0, none⟩, kw, some ⟨bm, 0, none⟩, km, some ⟨bp, 0, none⟩, kp, q.map (·.1)⟩) rfl rfl rfl (by simp) rfl ?_
  refine walk ?_
  refine s_call rfl (rOn (J := J.nx) (k := k) (kk := kk) (K := K) rfl hm hk hp hkk (hr.tab.ent Ent.auto) ok.tab hK) rfl ?_
  rintro _ _ ⟨X, t', rfl, rfl, hX⟩
  refine walk ?_
  refine s_storeV (vs := rfC ((J.nx.tset n.g 1).has n.m n.p 1 (-1)) ⟨t', some ⟨bc, 0, none⟩, kc, some ⟨bw, 0, none⟩, kw, some ⟨bm, 0, none⟩, km, some ⟨bp, 0, none⟩, kp, q.map (·.1)⟩) rfl rfl rfl rfl rfl ?_
  refine walk ?_
  refine retR1 (.inr rfl) rfl (rv_cellA rfl Cells.blk0 rfl) (own_fin (J := (J.nx.tset n.g 1).has n.m n.p 1 (-1)) (t := t') (sc := sc) (sw := sw) (sm := sm) (sp := sp) (ws := q.map (·.1)) (X := X + Ws q) (cn := zs (J.sem.map (·.2))) rfl rfl ?_ ?_ hsl (by rw [List.length_map]; exact hql) ?_ ?_ ?_)
  · simp only [HProp.add_assoc]; exact Ent.auto
  · exact (hX G hr0.tab).ent (by rw [HProp.add_assoc]; exact Ent.auto)
  · show (List.modify _ _ _).length ≤ _; rw [List.length_modify]; exact hmx
  · show (if 0 ≤ n.p then J.ps.set n.p.toNat n.m else J.ps).length ≤ _; split <;> simpa using hpx
  · intro i l c hi
    obtain ⟨o, k, e1, e2, _⟩ := ws_rd hq hws hi
    exact ⟨o, k, by rw [List.getElem?_map, e1]; rfl, e2.ent (by rw [HProp.add_assoc]; exact Ent.auto)⟩
theorem do4 (hr0 : RI B G J a) (E : Ent H G) (ok : J.ok K) (hK : K ≤ 90000) (hmay : mayB J n = true) (e : n.kind = 4) (hM : ∃ k : Nat, n.m = (k : Int) ∧ k < J.ms.length) (hP : ∃ k : Nat, n.p = (k : Int) ∧ k < J.ps.length) :
    Does Tryz.prog B 24 [rfV J a, noteV n] H fun r H' => DoR B H G (stepI J n) r H' := by
  have hst := step3 (J := J) (.inr e)
  obtain ⟨k, hm, hk⟩ := hM
  obtain ⟨kk, hp, hkk⟩ := hP
  have hr := hr0.ent E
  have hK1 : K + 1 ≤ 100000 := by omega
  have hK : K ≤ 100000 := by omega
  have hml := ok.ml
  have hpl := ok.pl
  have hsl := ok.sl
  have htl := ok.tl
  have hmany := ok.many
  have hcc := ok.c
  obtain ⟨_, c1, c2, c3, c4, c5, c6, _⟩ := hcc
  have hmx : J.ms.length ≤ maxLen := by simp only [maxLen]; omega
  have hpx : J.ps.length ≤ maxLen := by simp only [maxLen]; omega
  rw [hst]
  obtain ⟨⟨o1_, k1_, o2_, k2_, o3_, k3_⟩, oc_, kc_, ow_, kw_, om_, km_, op_, kp_, ws_⟩ := a
  refine Does.weak (R := fun r H' => ∃ G', Ent H' G' ∧ DoR B H G _ r G') ?_ fun v H1 h => h
  refine fn_intro 122 Tryz.func24 rfl rfl rfl ?_
  refine walk ?_
  refine s_box rfl rfl rfl ?_
  intro b2
  refine walk ?_
  refine s_box (cs := nv n) rfl rfl rfl ?_
  intro b3
  refine s_alloc rfl ?_
  intro b4
  refine walk ?_
  refine s_call rfl (rCopied (hr.ent InH.ent) ok hK) rfl ?_
  rintro _ _ ⟨bc, kc, sc, bw, kw, sw, bm, km, sm, bp, kp, sp, q, rfl, hq, rfl⟩
  refine WPL.split (Ws q) (WPL.under fun w_ hw_ => ⟨_, hw_, ?_⟩)
  have hws := Ws.rds ⟨w_, hw_.ent (Ent.drop_right _ _)⟩
  clear hw_ w_
  have hql : q.length = 4 := by have := congrArg List.length hq; simp only [List.length_map] at this; omega
  refine walk ?_
  refine s_storeV (vs := (rfC J ⟨⟨o1_, k1_, o2_, k2_, o3_, k3_⟩, some ⟨bc, 0, none⟩, kc, some ⟨bw, 0, none⟩, kw, some ⟨bm, 0, none⟩, km, some ⟨bp, 0, none⟩, kp, q.map (·.1)⟩)) rfl rfl rfl rfl rfl ?_
  refine walk ?_
  refine s_store (v := .int .i64 (J.many + 1)) (cs' := rfC J.nx ⟨⟨o1_, k1_, o2_, k2_, o3_, k3_⟩, some ⟨bc, 0, none⟩, kc, some ⟨bw, 0, none⟩, kw, some ⟨bm, 0, none⟩, km, some ⟨bp, 0, none⟩, kp, q.map (·.1)⟩) rfl rfl rfl (by simp) rfl ?_
  refine walk ?_
  refine s_call rfl (rOn (J := J.nx) (k := k) (kk := kk) (K := K) rfl hm hk hp hkk (hr.tab.ent Ent.auto) ok.tab hK) rfl ?_
  rintro _ _ ⟨X, t', rfl, rfl, hX⟩
  refine walk ?_
  refine s_storeV (vs := rfC ((J.nx.tset n.g 1).has n.m n.p 1 (-1)) ⟨t', some ⟨bc, 0, none⟩, kc, some ⟨bw, 0, none⟩, kw, some ⟨bm, 0, none⟩, km, some ⟨bp, 0, none⟩, kp, q.map (·.1)⟩) rfl rfl rfl rfl rfl ?_
  refine walk ?_
  refine retR1 (.inr rfl) rfl (rv_cellA rfl Cells.blk0 rfl) (own_fin (J := (J.nx.tset n.g 1).has n.m n.p 1 (-1)) (t := t') (sc := sc) (sw := sw) (sm := sm) (sp := sp) (ws := q.map (·.1)) (X := X + Ws q) (cn := zs (J.sem.map (·.2))) rfl rfl ?_ ?_ hsl (by rw [List.length_map]; exact hql) ?_ ?_ ?_)
  · simp only [HProp.add_assoc]; exact Ent.auto
  · exact (hX G hr0.tab).ent (by rw [HProp.add_assoc]; exact Ent.auto)
  · show (List.modify _ _ _).length ≤ _; rw [List.length_modify]; exact hmx
  · show (if 0 ≤ n.p then J.ps.set n.p.toNat n.m else J.ps).length ≤ _; split <;> simpa using hpx
  · intro i l c hi
    obtain ⟨o, k, e1, e2, _⟩ := ws_rd hq hws hi
    exact ⟨o, k, by rw [List.getElem?_map, e1]; rfl, e2.ent (by rw [HProp.add_assoc]; exact Ent.auto)⟩
theorem do9 (hr0 : RI B G J a) (E : Ent H G) (ok : J.ok K) (hK : K ≤ 90000) (hmay : mayB J n = true) (e : n.kind = 9) (hM : ∃ k : Nat, n.m = (k : Int) ∧ k < J.ms.length) (hP : ∃ k : Nat, n.p = (k : Int) ∧ k < J.ps.length) :
    Does Tryz.prog B 24 [rfV J a, noteV n] H fun r H' => DoR B H G (stepI J n) r H' := by
  have hst := step9 (J := J) e
  obtain ⟨k, hm, hk⟩ := hM
  obtain ⟨kk, hp, hkk⟩ := hP
  have hr := hr0.ent E
  have hK1 : K + 1 ≤ 100000 := by omega
  have hK : K ≤ 100000 := by omega
  have hml := ok.ml
  have hpl := ok.pl
  have hsl := ok.sl
  have htl := ok.tl
  have hmany := ok.many
  have hcc := ok.c
  obtain ⟨_, c1, c2, c3, c4, c5, c6, _⟩ := hcc
  have hmx : J.ms.length ≤ maxLen := by simp only [maxLen]; omega
  have hpx : J.ps.length ≤ maxLen := by simp only [maxLen]; omega
  rw [hst]
  obtain ⟨⟨o1_, k1_, o2_, k2_, o3_, k3_⟩, oc_, kc_, ow_, kw_, om_, km_, op_, kp_, ws_⟩ := a
  refine Does.weak (R := fun r H' => ∃ G', Ent H' G' ∧ DoR B H G _ r G') ?_ fun v H1 h => h
  refine fn_intro 122 Tryz.func24 rfl rfl rfl ?_
  refine walk ?_
  refine s_box rfl rfl rfl ?_
  intro b2
  refine walk ?_
  refine s_box (cs := nv n) rfl rfl rfl ?_
  intro b3
  refine s_alloc rfl ?_
  intro b4
  refine walk ?_
  refine s_call rfl (rCopied (hr.ent InH.ent) ok hK) rfl ?_
  rintro _ _ ⟨bc, kc, sc, bw, kw, sw, bm, km, sm, bp, kp, sp, q, rfl, hq, rfl⟩
  refine WPL.split (Ws q) (WPL.under fun w_ hw_ => ⟨_, hw_, ?_⟩)
  have hws := Ws.rds ⟨w_, hw_.ent (Ent.drop_right _ _)⟩
  clear hw_ w_
  have hql : q.length = 4 := by have := congrArg List.length hq; simp only [List.length_map] at this; omega
  refine walk ?_
  refine s_storeV (vs := (rfC J ⟨⟨o1_, k1_, o2_, k2_, o3_, k3_⟩, some ⟨bc, 0, none⟩, kc, some ⟨bw, 0, none⟩, kw, some ⟨bm, 0, none⟩, km, some ⟨bp, 0, none⟩, kp, q.map (·.1)⟩)) rfl rfl rfl rfl rfl ?_
  refine walk ?_
  refine s_store (v := .int .i64 (J.many + 1)) (cs' := rfC J.nx ⟨⟨o1_, k1_, o2_, k2_, o3_, k3_⟩, some ⟨bc, 0, none⟩, kc, some ⟨bw, 0, none⟩, kw, some ⟨bm, 0, none⟩, km, some ⟨bp, 0, none⟩, kp, q.map (·.1)⟩) rfl rfl rfl (by simp) rfl ?_
  refine walk ?_
  refine s_call rfl (rOn (J := J.nx) (k := k) (kk := kk) (K := K) rfl hm hk hp hkk (hr.tab.ent Ent.auto) ok.tab hK) rfl ?_
  rintro _ _ ⟨X, t', rfl, rfl, hX⟩
  refine walk ?_
  refine s_storeV (vs := rfC ((J.nx.tset n.g 0).has n.m n.p 1 (-1)) ⟨t', some ⟨bc, 0, none⟩, kc, some ⟨bw, 0, none⟩, kw, some ⟨bm, 0, none⟩, km, some ⟨bp, 0, none⟩, kp, q.map (·.1)⟩) rfl rfl rfl rfl rfl ?_
  refine walk ?_
  refine retR1 (.inr rfl) rfl (rv_cellA rfl Cells.blk0 rfl) (own_fin (J := (J.nx.tset n.g 0).has n.m n.p 1 (-1)) (t := t') (sc := sc) (sw := sw) (sm := sm) (sp := sp) (ws := q.map (·.1)) (X := X + Ws q) (cn := zs (J.sem.map (·.2))) rfl rfl ?_ ?_ hsl (by rw [List.length_map]; exact hql) ?_ ?_ ?_)
  · simp only [HProp.add_assoc]; exact Ent.auto
  · exact (hX G hr0.tab).ent (by rw [HProp.add_assoc]; exact Ent.auto)
  · show (List.modify _ _ _).length ≤ _; rw [List.length_modify]; exact hmx
  · show (if 0 ≤ n.p then J.ps.set n.p.toNat n.m else J.ps).length ≤ _; split <;> simpa using hpx
  · intro i l c hi
    obtain ⟨o, k, e1, e2, _⟩ := ws_rd hq hws hi
    exact ⟨o, k, by rw [List.getElem?_map, e1]; rfl, e2.ent (by rw [HProp.add_assoc]; exact Ent.auto)⟩
theorem do13 (hr0 : RI B G J a) (E : Ent H G) (ok : J.ok K) (hK : K ≤ 90000) (hmay : mayB J n = true) (e : n.kind = 13) (hM : ∃ k : Nat, n.m = (k : Int) ∧ k < J.ms.length) (hP : ∃ k : Nat, n.p = (k : Int) ∧ k < J.ps.length) :
    Does Tryz.prog B 24 [rfV J a, noteV n] H fun r H' => DoR B H G (stepI J n) r H' := by
  have hst := step13 (J := J) e
  obtain ⟨k, hm, hk⟩ := hM
  obtain ⟨kk, hp, hkk⟩ := hP
  have hr := hr0.ent E
  have hK1 : K + 1 ≤ 100000 := by omega
  have hK : K ≤ 100000 := by omega
  have hml := ok.ml
  have hpl := ok.pl
  have hsl := ok.sl
  have htl := ok.tl
  have hmany := ok.many
  have hcc := ok.c
  obtain ⟨_, c1, c2, c3, c4, c5, c6, _⟩ := hcc
  have hmx : J.ms.length ≤ maxLen := by simp only [maxLen]; omega
  have hpx : J.ps.length ≤ maxLen := by simp only [maxLen]; omega
  rw [hst]
  obtain ⟨⟨o1_, k1_, o2_, k2_, o3_, k3_⟩, oc_, kc_, ow_, kw_, om_, km_, op_, kp_, ws_⟩ := a
  refine Does.weak (R := fun r H' => ∃ G', Ent H' G' ∧ DoR B H G _ r G') ?_ fun v H1 h => h
  refine fn_intro 122 Tryz.func24 rfl rfl rfl ?_
  refine walk ?_
  refine s_box rfl rfl rfl ?_
  intro b2
  refine walk ?_
  refine s_box (cs := nv n) rfl rfl rfl ?_
  intro b3
  refine s_alloc rfl ?_
  intro b4
  refine walk ?_
  refine s_call rfl (rCopied (hr.ent InH.ent) ok hK) rfl ?_
  rintro _ _ ⟨bc, kc, sc, bw, kw, sw, bm, km, sm, bp, kp, sp, q, rfl, hq, rfl⟩
  refine WPL.split (Ws q) (WPL.under fun w_ hw_ => ⟨_, hw_, ?_⟩)
  have hws := Ws.rds ⟨w_, hw_.ent (Ent.drop_right _ _)⟩
  clear hw_ w_
  have hql : q.length = 4 := by have := congrArg List.length hq; simp only [List.length_map] at this; omega
  refine walk ?_
  refine s_storeV (vs := (rfC J ⟨⟨o1_, k1_, o2_, k2_, o3_, k3_⟩, some ⟨bc, 0, none⟩, kc, some ⟨bw, 0, none⟩, kw, some ⟨bm, 0, none⟩, km, some ⟨bp, 0, none⟩, kp, q.map (·.1)⟩)) rfl rfl rfl rfl rfl ?_
  refine walk ?_
  refine s_store (v := .int .i64 (J.many + 1)) (cs' := rfC J.nx ⟨⟨o1_, k1_, o2_, k2_, o3_, k3_⟩, some ⟨bc, 0, none⟩, kc, some ⟨bw, 0, none⟩, kw, some ⟨bm, 0, none⟩, km, some ⟨bp, 0, none⟩, kp, q.map (·.1)⟩) rfl rfl rfl (by simp) rfl ?_
  refine walk ?_
  refine s_call rfl (rEnds13 (J := J.nx) (K := K) rfl e hm hk hp hkk (hr.tab.ent Ent.auto) ok.tab hK) rfl ?_
  rintro _ _ ⟨X, t', rfl, rfl, hX⟩
  refine walk ?_
  refine s_storeV (vs := rfC (J.nx.has n.m n.p 1 (-1)) ⟨t', some ⟨bc, 0, none⟩, kc, some ⟨bw, 0, none⟩, kw, some ⟨bm, 0, none⟩, km, some ⟨bp, 0, none⟩, kp, q.map (·.1)⟩) rfl rfl rfl rfl rfl ?_
  refine walk ?_
  refine retR1 (.inr rfl) rfl (rv_cellA rfl Cells.blk0 rfl) (own_fin (J := J.nx.has n.m n.p 1 (-1)) (t := t') (sc := sc) (sw := sw) (sm := sm) (sp := sp) (ws := q.map (·.1)) (X := X + Ws q) (cn := zs (J.sem.map (·.2))) rfl rfl ?_ ?_ hsl (by rw [List.length_map]; exact hql) ?_ ?_ ?_)
  · simp only [HProp.add_assoc]; exact Ent.auto
  · exact (hX G hr0.tab).ent (by simp only [HProp.add_assoc]; exact Ent.auto)
  · show (List.modify _ _ _).length ≤ _; rw [List.length_modify]; exact hmx
  · show (if 0 ≤ n.p then J.ps.set n.p.toNat n.m else J.ps).length ≤ _; split <;> simpa using hpx
  · intro i l c hi
    obtain ⟨o, k, e1, e2, _⟩ := ws_rd hq hws hi
    exact ⟨o, k, by rw [List.getElem?_map, e1]; rfl, e2.ent (by simp only [HProp.add_assoc]; exact Ent.auto)⟩
theorem do14 (hr0 : RI B G J a) (E : Ent H G) (ok : J.ok K) (hK : K ≤ 90000) (hmay : mayB J n = true) (e : n.kind = 14) {k : Nat} {old : Mc} (hm : n.m = (k : Int)) (hk : k < J.ms.length) (hold : J.ms[k]? = some old) (hg : old.g = -1) (hP : ∃ k : Nat, n.p = (k : Int) ∧ k < J.ps.length) :
    Does Tryz.prog B 24 [rfV J a, noteV n] H fun r H' => DoR B H G (stepI J n) r H' := by
  have hst := step14 (J := J) e
  obtain ⟨kk, hp, hkk⟩ := hP
  have hr := hr0.ent E
  have hK1 : K + 1 ≤ 100000 := by omega
  have hK : K ≤ 100000 := by omega
  have hml := ok.ml
  have hpl := ok.pl
  have hsl := ok.sl
  have htl := ok.tl
  have hmany := ok.many
  have hcc := ok.c
  obtain ⟨_, c1, c2, c3, c4, c5, c6, _⟩ := hcc
  have hmx : J.ms.length ≤ maxLen := by simp only [maxLen]; omega
  have hpx : J.ps.length ≤ maxLen := by simp only [maxLen]; omega
  rw [hst]
  obtain ⟨⟨o1_, k1_, o2_, k2_, o3_, k3_⟩, oc_, kc_, ow_, kw_, om_, km_, op_, kp_, ws_⟩ := a
  refine Does.weak (R := fun r H' => ∃ G', Ent H' G' ∧ DoR B H G _ r G') ?_ fun v H1 h => h
  refine fn_intro 122 Tryz.func24 rfl rfl rfl ?_
  refine walk ?_
  refine s_box rfl rfl rfl ?_
  intro b2
  refine walk ?_
  refine s_box (cs := nv n) rfl rfl rfl ?_
  intro b3
  refine s_alloc rfl ?_
  intro b4
  refine walk ?_
  refine s_call rfl (rCopied (hr.ent InH.ent) ok hK) rfl ?_
  rintro _ _ ⟨bc, kc, sc, bw, kw, sw, bm, km, sm, bp, kp, sp, q, rfl, hq, rfl⟩
  refine WPL.split (Ws q) (WPL.under fun w_ hw_ => ⟨_, hw_, ?_⟩)
  have hws := Ws.rds ⟨w_, hw_.ent (Ent.drop_right _ _)⟩
  clear hw_ w_
  have hql : q.length = 4 := by have := congrArg List.length hq; simp only [List.length_map] at this; omega
  refine walk ?_
  refine s_storeV (vs := (rfC J ⟨⟨o1_, k1_, o2_, k2_, o3_, k3_⟩, some ⟨bc, 0, none⟩, kc, some ⟨bw, 0, none⟩, kw, some ⟨bm, 0, none⟩, km, some ⟨bp, 0, none⟩, kp, q.map (·.1)⟩)) rfl rfl rfl rfl rfl ?_
  refine walk ?_
  refine s_store (v := .int .i64 (J.many + 1)) (cs' := rfC J.nx ⟨⟨o1_, k1_, o2_, k2_, o3_, k3_⟩, some ⟨bc, 0, none⟩, kc, some ⟨bw, 0, none⟩, kw, some ⟨bm, 0, none⟩, km, some ⟨bp, 0, none⟩, kp, q.map (·.1)⟩) rfl rfl rfl (by simp) rfl ?_
  refine walk ?_
  refine s_call rfl (rEnds14 (J := J.nx) (K := K) rfl e hm hk hp hkk hold hg (hr.tab.ent Ent.auto) ok.tab hK) rfl ?_
  rintro _ _ ⟨X, t', rfl, rfl, hX⟩
  refine walk ?_
  refine s_storeV (vs := rfC ((J.nx.leaves n.m).pset n.p (-1)) ⟨t', some ⟨bc, 0, none⟩, kc, some ⟨bw, 0, none⟩, kw, some ⟨bm, 0, none⟩, km, some ⟨bp, 0, none⟩, kp, q.map (·.1)⟩) rfl rfl rfl rfl rfl ?_
  refine walk ?_
  refine retR1 (.inr rfl) rfl (rv_cellA rfl Cells.blk0 rfl) (own_fin (J := (J.nx.leaves n.m).pset n.p (-1)) (t := t') (sc := sc) (sw := sw) (sm := sm) (sp := sp) (ws := q.map (·.1)) (X := X + Ws q) (cn := zs (J.sem.map (·.2))) rfl rfl ?_ ?_ hsl (by rw [List.length_map]; exact hql) ?_ ?_ ?_)
  · simp only [HProp.add_assoc]; exact Ent.auto
  · exact (hX G hr0.tab).ent (by simp only [HProp.add_assoc]; exact Ent.auto)
  · show (List.modify _ _ _).length ≤ _; rw [List.length_modify]; exact hmx
  · show (List.set _ _ _).length ≤ _; rw [List.length_set]; exact hpx
  · intro i l c hi
    obtain ⟨o, k, e1, e2, _⟩ := ws_rd hq hws hi
    exact ⟨o, k, by rw [List.getElem?_map, e1]; rfl, e2.ent (by simp only [HProp.add_assoc]; exact Ent.auto)⟩
theorem do16 (hr0 : RI B G J a) (E : Ent H G) (ok : J.ok K) (hK : K ≤ 90000) (hmay : mayB J n = true) (e : n.kind = 16)  :
    Does Tryz.prog B 24 [rfV J a, noteV n] H fun r H' => DoR B H G (stepI J n) r H' := by
  have hst := step16 (J := J) e
  have hr := hr0.ent E
  have hK1 : K + 1 ≤ 100000 := by omega
  have hK : K ≤ 100000 := by omega
  have hml := ok.ml
  have hpl := ok.pl
  have hsl := ok.sl
  have htl := ok.tl
  have hmany := ok.many
  have hcc := ok.c
  obtain ⟨_, c1, c2, c3, c4, c5, c6, _⟩ := hcc
  have hmx : J.ms.length ≤ maxLen := by simp only [maxLen]; omega
  have hpx : J.ps.length ≤ maxLen := by simp only [maxLen]; omega
  rw [hst]
  obtain ⟨⟨o1_, k1_, o2_, k2_, o3_, k3_⟩, oc_, kc_, ow_, kw_, om_, km_, op_, kp_, ws_⟩ := a
  refine Does.weak (R := fun r H' => ∃ G', Ent H' G' ∧ DoR B H G _ r G') ?_ fun v H1 h => h
  refine fn_intro 122 Tryz.func24 rfl rfl rfl ?_
  refine walk ?_
  refine s_box rfl rfl rfl ?_
  intro b2
  refine walk ?_
  refine s_box (cs := nv n) rfl rfl rfl ?_
  intro b3
  refine s_alloc rfl ?_
  intro b4
  refine walk ?_
  refine s_call rfl (rCopied (hr.ent InH.ent) ok hK) rfl ?_
  rintro _ _ ⟨bc, kc, sc, bw, kw, sw, bm, km, sm, bp, kp, sp, q, rfl, hq, rfl⟩
  refine WPL.split (Ws q) (WPL.under fun w_ hw_ => ⟨_, hw_, ?_⟩)
  have hws := Ws.rds ⟨w_, hw_.ent (Ent.drop_right _ _)⟩
  clear hw_ w_
  have hql : q.length = 4 := by have := congrArg List.length hq; simp only [List.length_map] at this; omega
  refine walk ?_
  refine s_storeV (vs := (rfC J ⟨⟨o1_, k1_, o2_, k2_, o3_, k3_⟩, some ⟨bc, 0, none⟩, kc, some ⟨bw, 0, none⟩, kw, some ⟨bm, 0, none⟩, km, some ⟨bp, 0, none⟩, kp, q.map (·.1)⟩)) rfl rfl rfl rfl rfl ?_
  refine walk ?_
  refine s_store (v := .int .i64 (J.many + 1)) (cs' := rfC J.nx ⟨⟨o1_, k1_, o2_, k2_, o3_, k3_⟩, some ⟨bc, 0, none⟩, kc, some ⟨bw, 0, none⟩, kw, some ⟨bm, 0, none⟩, km, some ⟨bp, 0, none⟩, kp, q.map (·.1)⟩) rfl rfl rfl (by simp) rfl ?_
  refine walk ?_
  refine s_call rfl (rEnds16 (J := J.nx) (K := K) rfl e (hr.tab.ent Ent.auto) ok.tab hK) rfl ?_
  rintro _ _ ⟨X, t', rfl, rfl, hX⟩
  refine walk ?_
  refine s_storeV (vs := rfC (J.nx) ⟨t', some ⟨bc, 0, none⟩, kc, some ⟨bw, 0, none⟩, kw, some ⟨bm, 0, none⟩, km, some ⟨bp, 0, none⟩, kp, q.map (·.1)⟩) rfl rfl rfl rfl rfl ?_
  refine walk ?_
  refine retR1 (.inr rfl) rfl (rv_cellA rfl Cells.blk0 rfl) (own_fin (J := J.nx) (t := t') (sc := sc) (sw := sw) (sm := sm) (sp := sp) (ws := q.map (·.1)) (X := X + Ws q) (cn := zs (J.sem.map (·.2))) rfl rfl ?_ ?_ hsl (by rw [List.length_map]; exact hql) ?_ ?_ ?_)
  · simp only [HProp.add_assoc]; exact Ent.auto
  · exact (hX G hr0.tab).ent (by simp only [HProp.add_assoc]; exact Ent.auto)
  · exact hmx
  · exact hpx
  · intro i l c hi
    obtain ⟨o, k, e1, e2, _⟩ := ws_rd hq hws hi
    exact ⟨o, k, by rw [List.getElem?_map, e1]; rfl, e2.ent (by simp only [HProp.add_assoc]; exact Ent.auto)⟩
theorem do15 (hr0 : RI B G J a) (E : Ent H G) (ok : J.ok K) (hK : K ≤ 90000) (hmay : mayB J n = true) (e : n.kind = 15) (hP : ∃ k : Nat, n.p = (k : Int) ∧ k < J.ps.length) (hV : ∀ kk : Nat, n.p = (kk : Int) → kk < J.ps.length → ∃ k2 : Nat, J.pAt n.p = (k2 : Int) ∧ k2 < J.ms.length) :
    Does Tryz.prog B 24 [rfV J a, noteV n] H fun r H' => DoR B H G (stepI J n) r H' := by
  have hst := step15 (J := J) e
  obtain ⟨kk, hp, hkk⟩ := hP
  obtain ⟨k2, hv, hk2⟩ := hV kk hp hkk
  have hr := hr0.ent E
  have hK1 : K + 1 ≤ 100000 := by omega
  have hK : K ≤ 100000 := by omega
  have hml := ok.ml
  have hpl := ok.pl
  have hsl := ok.sl
  have htl := ok.tl
  have hmany := ok.many
  have hcc := ok.c
  obtain ⟨_, c1, c2, c3, c4, c5, c6, _⟩ := hcc
  have hmx : J.ms.length ≤ maxLen := by simp only [maxLen]; omega
  have hpx : J.ps.length ≤ maxLen := by simp only [maxLen]; omega
  rw [hst]
  obtain ⟨⟨o1_, k1_, o2_, k2_, o3_, k3_⟩, oc_, kc_, ow_, kw_, om_, km_, op_, kp_, ws_⟩ := a
  refine Does.weak (R := fun r H' => ∃ G', Ent H' G' ∧ DoR B H G _ r G') ?_ fun v H1 h => h
  refine fn_intro 122 Tryz.func24 rfl rfl rfl ?_
  refine walk ?_
  refine s_box rfl rfl rfl ?_
  intro b2
  refine walk ?_
  refine s_box (cs := nv n) rfl rfl rfl ?_
  intro b3
  refine s_alloc rfl ?_
  intro b4
  refine walk ?_
  refine s_call rfl (rCopied (hr.ent InH.ent) ok hK) rfl ?_
  rintro _ _ ⟨bc, kc, sc, bw, kw, sw, bm, km, sm, bp, kp, sp, q, rfl, hq, rfl⟩
  refine WPL.split (Ws q) (WPL.under fun w_ hw_ => ⟨_, hw_, ?_⟩)
  have hws := Ws.rds ⟨w_, hw_.ent (Ent.drop_right _ _)⟩
  clear hw_ w_
  have hql : q.length = 4 := by have := congrArg List.length hq; simp only [List.length_map] at this; omega
  refine walk ?_
  refine s_storeV (vs := (rfC J ⟨⟨o1_, k1_, o2_, k2_, o3_, k3_⟩, some ⟨bc, 0, none⟩, kc, some ⟨bw, 0, none⟩, kw, some ⟨bm, 0, none⟩, km, some ⟨bp, 0, none⟩, kp, q.map (·.1)⟩)) rfl rfl rfl rfl rfl ?_
  refine walk ?_
  refine s_store (v := .int .i64 (J.many + 1)) (cs' := rfC J.nx ⟨⟨o1_, k1_, o2_, k2_, o3_, k3_⟩, some ⟨bc, 0, none⟩, kc, some ⟨bw, 0, none⟩, kw, some ⟨bm, 0, none⟩, km, some ⟨bp, 0, none⟩, kp, q.map (·.1)⟩) rfl rfl rfl (by simp) rfl ?_
  refine walk ?_
  refine s_call rfl (rEnds15 (J := J.nx) (K := K) rfl e hp hkk hv hk2 (hr.tab.ent Ent.auto) ok.tab hK) rfl ?_
  rintro _ _ ⟨X, t', rfl, rfl, hX⟩
  refine walk ?_
  refine s_storeV (vs := rfC ((J.nx.drops n.p).pset n.p (-2)) ⟨t', some ⟨bc, 0, none⟩, kc, some ⟨bw, 0, none⟩, kw, some ⟨bm, 0, none⟩, km, some ⟨bp, 0, none⟩, kp, q.map (·.1)⟩) rfl rfl rfl rfl rfl ?_
  refine walk ?_
  refine retR1 (.inr rfl) rfl (rv_cellA rfl Cells.blk0 rfl) (own_fin (J := (J.nx.drops n.p).pset n.p (-2)) (t := t') (sc := sc) (sw := sw) (sm := sm) (sp := sp) (ws := q.map (·.1)) (X := X + Ws q) (cn := zs (J.sem.map (·.2))) rfl rfl ?_ ?_ hsl (by rw [List.length_map]; exact hql) ?_ ?_ ?_)
  · simp only [HProp.add_assoc]; exact Ent.auto
  · exact (hX G hr0.tab).ent (by simp only [HProp.add_assoc]; exact Ent.auto)
  · show (List.modify _ _ _).length ≤ _; rw [List.length_modify]; exact hmx
  · show (List.set _ _ _).length ≤ _; rw [List.length_set]; exact hpx
  · intro i l c hi
    obtain ⟨o, k, e1, e2, _⟩ := ws_rd hq hws hi
    exact ⟨o, k, by rw [List.getElem?_map, e1]; rfl, e2.ent (by simp only [HProp.add_assoc]; exact Ent.auto)⟩
theorem do12 (hr0 : RI B G J a) (E : Ent H G) (ok : J.ok K) (hK : K ≤ 90000) (hmay : mayB J n = true) (e : n.kind = 12) (hM : ∃ k : Nat, n.m = (k : Int) ∧ k < J.ms.length) :
    Does Tryz.prog B 24 [rfV J a, noteV n] H fun r H' => DoR B H G (stepI J n) r H' := by
  have hst := step12 (J := J) e
  obtain ⟨k, hm, hk⟩ := hM
  have hr := hr0.ent E
  have hK1 : K + 1 ≤ 100000 := by omega
  have hK : K ≤ 100000 := by omega
  have hml := ok.ml
  have hpl := ok.pl
  have hsl := ok.sl
  have htl := ok.tl
  have hmany := ok.many
  have hcc := ok.c
  obtain ⟨_, c1, c2, c3, c4, c5, c6, _⟩ := hcc
  have hmx : J.ms.length ≤ maxLen := by simp only [maxLen]; omega
  have hpx : J.ps.length ≤ maxLen := by simp only [maxLen]; omega
  rw [hst]
  obtain ⟨⟨o1_, k1_, o2_, k2_, o3_, k3_⟩, oc_, kc_, ow_, kw_, om_, km_, op_, kp_, ws_⟩ := a
  refine Does.weak (R := fun r H' => ∃ G', Ent H' G' ∧ DoR B H G _ r G') ?_ fun v H1 h => h
  refine fn_intro 122 Tryz.func24 rfl rfl rfl ?_
  refine walk ?_
  refine s_box rfl rfl rfl ?_
  intro b2
  refine walk ?_
  refine s_box (cs := nv n) rfl rfl rfl ?_
  intro b3
  refine s_alloc rfl ?_
  intro b4
  refine walk ?_
  refine s_call rfl (rCopied (hr.ent InH.ent) ok hK) rfl ?_
  rintro _ _ ⟨bc, kc, sc, bw, kw, sw, bm, km, sm, bp, kp, sp, q, rfl, hq, rfl⟩
  refine WPL.split (Ws q) (WPL.under fun w_ hw_ => ⟨_, hw_, ?_⟩)
  have hws := Ws.rds ⟨w_, hw_.ent (Ent.drop_right _ _)⟩
  clear hw_ w_
  have hql : q.length = 4 := by have := congrArg List.length hq; simp only [List.length_map] at this; omega
  refine walk ?_
  refine s_storeV (vs := (rfC J ⟨⟨o1_, k1_, o2_, k2_, o3_, k3_⟩, some ⟨bc, 0, none⟩, kc, some ⟨bw, 0, none⟩, kw, some ⟨bm, 0, none⟩, km, some ⟨bp, 0, none⟩, kp, q.map (·.1)⟩)) rfl rfl rfl rfl rfl ?_
  refine walk ?_
  refine s_store (v := .int .i64 (J.many + 1)) (cs' := rfC J.nx ⟨⟨o1_, k1_, o2_, k2_, o3_, k3_⟩, some ⟨bc, 0, none⟩, kc, some ⟨bw, 0, none⟩, kw, some ⟨bm, 0, none⟩, km, some ⟨bp, 0, none⟩, kp, q.map (·.1)⟩) rfl rfl rfl (by simp) rfl ?_
  refine walk ?_
  refine s_call rfl (rEnds12 (J := J.nx) (K := K) rfl e hm hk (hr.tab.ent Ent.auto) ok.tab hK) rfl ?_
  rintro _ _ ⟨X, t', rfl, rfl, hX⟩
  refine walk ?_
  refine s_storeV (vs := rfC ((J.nx.tset n.g 1).leaves n.m) ⟨t', some ⟨bc, 0, none⟩, kc, some ⟨bw, 0, none⟩, kw, some ⟨bm, 0, none⟩, km, some ⟨bp, 0, none⟩, kp, q.map (·.1)⟩) rfl rfl rfl rfl rfl ?_
  refine walk ?_
  refine retR1 (.inr rfl) rfl (rv_cellA rfl Cells.blk0 rfl) (own_fin (J := (J.nx.tset n.g 1).leaves n.m) (t := t') (sc := sc) (sw := sw) (sm := sm) (sp := sp) (ws := q.map (·.1)) (X := X + Ws q) (cn := zs (J.sem.map (·.2))) rfl rfl ?_ ?_ hsl (by rw [List.length_map]; exact hql) ?_ ?_ ?_)
  · simp only [HProp.add_assoc]; exact Ent.auto
  · exact (hX G hr0.tab).ent (by simp only [HProp.add_assoc]; exact Ent.auto)
  · show (List.modify _ _ _).length ≤ _; rw [List.length_modify]; exact hmx
  · exact hpx
  · intro i l c hi
    obtain ⟨o, k, e1, e2, _⟩ := ws_rd hq hws hi
    exact ⟨o, k, by rw [List.getElem?_map, e1]; rfl, e2.ent (by simp only [HProp.add_assoc]; exact Ent.auto)⟩
theorem do11a (hr0 : RI B G J a) (E : Ent H G) (ok : J.ok K) (hK : K ≤ 90000) (hmay : mayB J n = true) (e : n.kind = 11) (hx : n.x = 1) (hM : ∃ k : Nat, n.m = (k : Int) ∧ k < J.ms.length) (hP : ∃ k : Nat, n.p = (k : Int) ∧ k < J.ps.length) (hV : ∀ kk : Nat, n.p = (kk : Int) → kk < J.ps.length → ∃ k2 : Nat, J.pAt n.p = (k2 : Int) ∧ k2 < J.ms.length) :
    Does Tryz.prog B 24 [rfV J a, noteV n] H fun r H' => DoR B H G (stepI J n) r H' := by
  have hst := step11a (J := J) e hx
  obtain ⟨k, hm, hk⟩ := hM
  obtain ⟨kk, hp, hkk⟩ := hP
  obtain ⟨k2, hv, hk2⟩ := hV kk hp hkk
  have hr := hr0.ent E
  have hK1 : K + 1 ≤ 100000 := by omega
  have hK : K ≤ 100000 := by omega
  have hml := ok.ml
  have hpl := ok.pl
  have hsl := ok.sl
  have htl := ok.tl
  have hmany := ok.many
  have hcc := ok.c
  obtain ⟨_, c1, c2, c3, c4, c5, c6, _⟩ := hcc
  have hmx : J.ms.length ≤ maxLen := by simp only [maxLen]; omega
  have hpx : J.ps.length ≤ maxLen := by simp only [maxLen]; omega
  rw [hst]
  obtain ⟨⟨o1_, k1_, o2_, k2_, o3_, k3_⟩, oc_, kc_, ow_, kw_, om_, km_, op_, kp_, ws_⟩ := a
  refine Does.weak (R := fun r H' => ∃ G', Ent H' G' ∧ DoR B H G _ r G') ?_ fun v H1 h => h
  refine fn_intro 122 Tryz.func24 rfl rfl rfl ?_
  refine walk ?_
  refine s_box rfl rfl rfl ?_
  intro b2
  refine walk ?_
  refine s_box (cs := nv n) rfl rfl rfl ?_
  intro b3
  refine s_alloc rfl ?_
  intro b4
  refine walk ?_
  refine s_call rfl (rCopied (hr.ent InH.ent) ok hK) rfl ?_
  rintro _ _ ⟨bc, kc, sc, bw, kw, sw, bm, km, sm, bp, kp, sp, q, rfl, hq, rfl⟩
  refine WPL.split (Ws q) (WPL.under fun w_ hw_ => ⟨_, hw_, ?_⟩)
  have hws := Ws.rds ⟨w_, hw_.ent (Ent.drop_right _ _)⟩
  clear hw_ w_
  have hql : q.length = 4 := by have := congrArg List.length hq; simp only [List.length_map] at this; omega
  refine walk ?_
  refine s_storeV (vs := (rfC J ⟨⟨o1_, k1_, o2_, k2_, o3_, k3_⟩, some ⟨bc, 0, none⟩, kc, some ⟨bw, 0, none⟩, kw, some ⟨bm, 0, none⟩, km, some ⟨bp, 0, none⟩, kp, q.map (·.1)⟩)) rfl rfl rfl rfl rfl ?_
  refine walk ?_
  refine s_store (v := .int .i64 (J.many + 1)) (cs' := rfC J.nx ⟨⟨o1_, k1_, o2_, k2_, o3_, k3_⟩, some ⟨bc, 0, none⟩, kc, some ⟨bw, 0, none⟩, kw, some ⟨bm, 0, none⟩, km, some ⟨bp, 0, none⟩, kp, q.map (·.1)⟩) rfl rfl rfl (by simp) rfl ?_
  refine walk ?_
  refine s_call rfl (rEnds11a (J := J.nx) (K := K) rfl e hx hm hk hp hkk hv hk2 (hr.tab.ent Ent.auto) ok.tab hK) rfl ?_
  rintro _ _ ⟨X, t', rfl, rfl, hX⟩
  refine walk ?_
  refine s_storeV (vs := rfC (((J.nx.drops n.p).tset n.g 2).has n.m n.p 2 n.g) ⟨t', some ⟨bc, 0, none⟩, kc, some ⟨bw, 0, none⟩, kw, some ⟨bm, 0, none⟩, km, some ⟨bp, 0, none⟩, kp, q.map (·.1)⟩) rfl rfl rfl rfl rfl ?_
  refine walk ?_
  refine retR1 (.inr rfl) rfl (rv_cellA rfl Cells.blk0 rfl) (own_fin (J := ((J.nx.drops n.p).tset n.g 2).has n.m n.p 2 n.g) (t := t') (sc := sc) (sw := sw) (sm := sm) (sp := sp) (ws := q.map (·.1)) (X := X + Ws q) (cn := zs (J.sem.map (·.2))) rfl rfl ?_ ?_ hsl (by rw [List.length_map]; exact hql) ?_ ?_ ?_)
  · simp only [HProp.add_assoc]; exact Ent.auto
  · exact (hX G hr0.tab).ent (by simp only [HProp.add_assoc]; exact Ent.auto)
  · show (List.modify (List.modify _ _ _) _ _).length ≤ _; rw [List.length_modify, List.length_modify]; exact hmx
  · show (if 0 ≤ n.p then J.ps.set n.p.toNat n.m else J.ps).length ≤ _; split <;> simpa using hpx
  · intro i l c hi
    obtain ⟨o, k, e1, e2, _⟩ := ws_rd hq hws hi
    exact ⟨o, k, by rw [List.getElem?_map, e1]; rfl, e2.ent (by simp only [HProp.add_assoc]; exact Ent.auto)⟩
theorem do11b (hr0 : RI B G J a) (E : Ent H G) (ok : J.ok K) (hK : K ≤ 90000) (hmay : mayB J n = true) (e : n.kind = 11) (hx : ¬ n.x = 1) (hM : ∃ k : Nat, n.m = (k : Int) ∧ k < J.ms.length) (hP : ∃ k : Nat, n.p = (k : Int) ∧ k < J.ps.length) :
    Does Tryz.prog B 24 [rfV J a, noteV n] H fun r H' => DoR B H G (stepI J n) r H' := by
  have hst := step11b (J := J) e hx
  obtain ⟨k, hm, hk⟩ := hM
  obtain ⟨kk, hp, hkk⟩ := hP
  have hr := hr0.ent E
  have hK1 : K + 1 ≤ 100000 := by omega
  have hK : K ≤ 100000 := by omega
  have hml := ok.ml
  have hpl := ok.pl
  have hsl := ok.sl
  have htl := ok.tl
  have hmany := ok.many
  have hcc := ok.c
  obtain ⟨_, c1, c2, c3, c4, c5, c6, _⟩ := hcc
  have hmx : J.ms.length ≤ maxLen := by simp only [maxLen]; omega
  have hpx : J.ps.length ≤ maxLen := by simp only [maxLen]; omega
  rw [hst]
  obtain ⟨⟨o1_, k1_, o2_, k2_, o3_, k3_⟩, oc_, kc_, ow_, kw_, om_, km_, op_, kp_, ws_⟩ := a
  refine Does.weak (R := fun r H' => ∃ G', Ent H' G' ∧ DoR B H G _ r G') ?_ fun v H1 h => h
  refine fn_intro 122 Tryz.func24 rfl rfl rfl ?_
  refine walk ?_
  refine s_box rfl rfl rfl ?_
  intro b2
  refine walk ?_
  refine s_box (cs := nv n) rfl rfl rfl ?_
  intro b3
  refine s_alloc rfl ?_
  intro b4
  refine walk ?_
  refine s_call rfl (rCopied (hr.ent InH.ent) ok hK) rfl ?_
  rintro _ _ ⟨bc, kc, sc, bw, kw, sw, bm, km, sm, bp, kp, sp, q, rfl, hq, rfl⟩
  refine WPL.split (Ws q) (WPL.under fun w_ hw_ => ⟨_, hw_, ?_⟩)
  have hws := Ws.rds ⟨w_, hw_.ent (Ent.drop_right _ _)⟩
  clear hw_ w_
  have hql : q.length = 4 := by have := congrArg List.length hq; simp only [List.length_map] at this; omega
  refine walk ?_
  refine s_storeV (vs := (rfC J ⟨⟨o1_, k1_, o2_, k2_, o3_, k3_⟩, some ⟨bc, 0, none⟩, kc, some ⟨bw, 0, none⟩, kw, some ⟨bm, 0, none⟩, km, some ⟨bp, 0, none⟩, kp, q.map (·.1)⟩)) rfl rfl rfl rfl rfl ?_
  refine walk ?_
  refine s_store (v := .int .i64 (J.many + 1)) (cs' := rfC J.nx ⟨⟨o1_, k1_, o2_, k2_, o3_, k3_⟩, some ⟨bc, 0, none⟩, kc, some ⟨bw, 0, none⟩, kw, some ⟨bm, 0, none⟩, km, some ⟨bp, 0, none⟩, kp, q.map (·.1)⟩) rfl rfl rfl (by simp) rfl ?_
  refine walk ?_
  refine s_call rfl (rEnds11b (J := J.nx) (K := K) rfl e hx hm hk hp hkk (hr.tab.ent Ent.auto) ok.tab hK) rfl ?_
  rintro _ _ ⟨X, t', rfl, rfl, hX⟩
  refine walk ?_
  refine s_storeV (vs := rfC ((J.nx.tset n.g 2).has n.m n.p 2 n.g) ⟨t', some ⟨bc, 0, none⟩, kc, some ⟨bw, 0, none⟩, kw, some ⟨bm, 0, none⟩, km, some ⟨bp, 0, none⟩, kp, q.map (·.1)⟩) rfl rfl rfl rfl rfl ?_
  refine walk ?_
  refine retR1 (.inr rfl) rfl (rv_cellA rfl Cells.blk0 rfl) (own_fin (J := (J.nx.tset n.g 2).has n.m n.p 2 n.g) (t := t') (sc := sc) (sw := sw) (sm := sm) (sp := sp) (ws := q.map (·.1)) (X := X + Ws q) (cn := zs (J.sem.map (·.2))) rfl rfl ?_ ?_ hsl (by rw [List.length_map]; exact hql) ?_ ?_ ?_)
  · simp only [HProp.add_assoc]; exact Ent.auto
  · exact (hX G hr0.tab).ent (by simp only [HProp.add_assoc]; exact Ent.auto)
  · show (List.modify _ _ _).length ≤ _; rw [List.length_modify]; exact hmx
  · show (if 0 ≤ n.p then J.ps.set n.p.toNat n.m else J.ps).length ≤ _; split <;> simpa using hpx
  · intro i l c hi
    obtain ⟨o, k, e1, e2, _⟩ := ws_rd hq hws hi
    exact ⟨o, k, by rw [List.getElem?_map, e1]; rfl, e2.ent (by simp only [HProp.add_assoc]; exact Ent.auto)⟩
theorem do10 (hr0 : RI B G J a) (E : Ent H G) (ok : J.ok K) (hK : K ≤ 90000) (hmay : mayB J n = true) (e : n.kind = 10) (hM : ∃ k : Nat, n.m = (k : Int) ∧ k < J.ms.length) (hP : ∃ k : Nat, n.p = (k : Int) ∧ k < J.ps.length) :
    Does Tryz.prog B 24 [rfV J a, noteV n] H fun r H' => DoR B H G (stepI J n) r H' := by
  have hst := step10 (J := J) e
  obtain ⟨k, hm, hk⟩ := hM
  obtain ⟨kk, hp, hkk⟩ := hP
  have hr := hr0.ent E
  have hK1 : K + 1 ≤ 100000 := by omega
  have hK : K ≤ 100000 := by omega
  have hml := ok.ml
  have hpl := ok.pl
  have hsl := ok.sl
  have htl := ok.tl
  have hmany := ok.many
  have hcc := ok.c
  obtain ⟨_, c1, c2, c3, c4, c5, c6, _⟩ := hcc
  have hmx : J.ms.length ≤ maxLen := by simp only [maxLen]; omega
  have hpx : J.ps.length ≤ maxLen := by simp only [maxLen]; omega
  rw [hst]
  obtain ⟨⟨o1_, k1_, o2_, k2_, o3_, k3_⟩, oc_, kc_, ow_, kw_, om_, km_, op_, kp_, ws_⟩ := a
  refine Does.weak (R := fun r H' => ∃ G', Ent H' G' ∧ DoR B H G _ r G') ?_ fun v H1 h => h
  refine fn_intro 122 Tryz.func24 rfl rfl rfl ?_
  refine walk ?_
  refine s_box rfl rfl rfl ?_
  intro b2
  refine walk ?_
  refine s_box (cs := nv n) rfl rfl rfl ?_
  intro b3
  refine s_alloc rfl ?_
  intro b4
  refine walk ?_
  refine s_call rfl (rCopied (hr.ent InH.ent) ok hK) rfl ?_
  rintro _ _ ⟨bc, kc, sc, bw, kw, sw, bm, km, sm, bp, kp, sp, q, rfl, hq, rfl⟩
  refine WPL.split (Ws q) (WPL.under fun w_ hw_ => ⟨_, hw_, ?_⟩)
  have hws := Ws.rds ⟨w_, hw_.ent (Ent.drop_right _ _)⟩
  clear hw_ w_
  have hql : q.length = 4 := by have := congrArg List.length hq; simp only [List.length_map] at this; omega
  refine walk ?_
  refine s_storeV (vs := (rfC J ⟨⟨o1_, k1_, o2_, k2_, o3_, k3_⟩, some ⟨bc, 0, none⟩, kc, some ⟨bw, 0, none⟩, kw, some ⟨bm, 0, none⟩, km, some ⟨bp, 0, none⟩, kp, q.map (·.1)⟩)) rfl rfl rfl rfl rfl ?_
  refine walk ?_
  refine s_store (v := .int .i64 (J.many + 1)) (cs' := rfC J.nx ⟨⟨o1_, k1_, o2_, k2_, o3_, k3_⟩, some ⟨bc, 0, none⟩, kc, some ⟨bw, 0, none⟩, kw, some ⟨bm, 0, none⟩, km, some ⟨bp, 0, none⟩, kp, q.map (·.1)⟩) rfl rfl rfl (by simp) rfl ?_
  refine walk ?_
  (apply s_indexAddr (j := k) (o' := k * 4); (· exact rfl); (· exact rfl); (· omega); (· omega); (· omega); (· exact rfl))
  refine walk ?_
  refine s_store (v := .int .i64 n.p) (cs' := mcs (J.ms.modify n.m.toNat fun x => { x with b := n.p }) ++ sm) rfl rfl rfl ?_ (by rw [hm, Int.toNat_natCast]; exact mcs_setB hk sm n.p) ?_
  · simp only [List.length_append, mcs_len]; omega
  refine walk ?_
  have hV : rfV J.nx ⟨⟨o1_, k1_, o2_, k2_, o3_, k3_⟩, some ⟨bc, 0, none⟩, kc, some ⟨bw, 0, none⟩, kw, some ⟨bm, 0, none⟩, km, some ⟨bp, 0, none⟩, kp, q.map (·.1)⟩ = rfV ({ J.nx with ms := J.ms.modify n.m.toNat fun x => { x with b := n.p } }) ⟨⟨o1_, k1_, o2_, k2_, o3_, k3_⟩, some ⟨bc, 0, none⟩, kc, some ⟨bw, 0, none⟩, kw, some ⟨bm, 0, none⟩, km, some ⟨bp, 0, none⟩, kp, q.map (·.1)⟩ := congrArg (fun c : List Value => Value.agg c.toArray) (rfC_len (J := J.nx) (J' := { J.nx with ms := J.ms.modify n.m.toNat fun x => { x with b := n.p } }) rfl rfl (by show (List.modify _ _ _).length = _; rw [List.length_modify]) rfl rfl).symm
  refine s_call rfl (rOn (J := { J.nx with ms := J.ms.modify n.m.toNat fun x => { x with b := n.p } }) (k := k) (kk := kk) (K := K) hV hm (by show k < (List.modify _ _ _).length; rw [List.length_modify]; exact hk) hp hkk (hr.tab.ent Ent.auto) ok.tab hK) rfl ?_
  rintro _ _ ⟨X, t', rfl, rfl, hX⟩
  refine walk ?_
  refine s_storeV (vs := rfC ((({ J.nx with ms := J.ms.modify n.m.toNat fun x => { x with b := n.p } } : Ide).tset n.g 4).has n.m n.p 3 n.g) ⟨t', some ⟨bc, 0, none⟩, kc, some ⟨bw, 0, none⟩, kw, some ⟨bm, 0, none⟩, km, some ⟨bp, 0, none⟩, kp, q.map (·.1)⟩) rfl rfl rfl rfl rfl ?_
  refine walk ?_
  refine retR1 (.inr rfl) rfl (rv_cellA rfl Cells.blk0 rfl) (own_fin (J := (({ J.nx with ms := J.ms.modify n.m.toNat fun x => { x with b := n.p } } : Ide).tset n.g 4).has n.m n.p 3 n.g) (t := t') (sc := sc) (sw := sw) (sm := sm) (sp := sp) (ws := q.map (·.1)) (X := X + Ws q) (cn := zs (J.sem.map (·.2))) rfl rfl ?_ ?_ hsl (by rw [List.length_map]; exact hql) ?_ ?_ ?_)
  · simp only [HProp.add_assoc]; exact Ent.auto
  · exact (hX G hr0.tab).ent (by simp only [HProp.add_assoc]; exact Ent.auto)
  · show (List.modify (List.modify _ _ _) _ _).length ≤ _; rw [List.length_modify, List.length_modify]; exact hmx
  · show (if 0 ≤ n.p then J.ps.set n.p.toNat n.m else J.ps).length ≤ _; split <;> simpa using hpx
  · intro i l c hi
    obtain ⟨o, k, e1, e2, _⟩ := ws_rd hq hws hi
    exact ⟨o, k, by rw [List.getElem?_map, e1]; rfl, e2.ent (by simp only [HProp.add_assoc]; exact Ent.auto)⟩
theorem do5 (hr0 : RI B G J a) (E : Ent H G) (ok : J.ok K) (hK : K ≤ 90000) (hmay : mayB J n = true) (e : n.kind = 5) {j : Nat} {l : List Int} {c : Int} (hx : n.x = (j : Int)) (hj4 : j < 4) (hj : J.sem[j]? = some (l, c)) (hc0 : 0 ≤ c) (hc1 : c ≤ 1073741824) (hstp : stepI J n = { J.nx with sem := J.sem.set j (l, c - 1) }) :
    Does Tryz.prog B 24 [rfV J a, noteV n] H fun r H' => DoR B H G (stepI J n) r H' := by
  have hst := hstp
  have hr := hr0.ent E
  have hK1 : K + 1 ≤ 100000 := by omega
  have hK : K ≤ 100000 := by omega
  have hml := ok.ml
  have hpl := ok.pl
  have hsl := ok.sl
  have htl := ok.tl
  have hmany := ok.many
  have hcc := ok.c
  obtain ⟨_, c1, c2, c3, c4, c5, c6, _⟩ := hcc
  have hmx : J.ms.length ≤ maxLen := by simp only [maxLen]; omega
  have hpx : J.ps.length ≤ maxLen := by simp only [maxLen]; omega
  rw [hst]
  obtain ⟨⟨o1_, k1_, o2_, k2_, o3_, k3_⟩, oc_, kc_, ow_, kw_, om_, km_, op_, kp_, ws_⟩ := a
  refine Does.weak (R := fun r H' => ∃ G', Ent H' G' ∧ DoR B H G _ r G') ?_ fun v H1 h => h
  refine fn_intro 122 Tryz.func24 rfl rfl rfl ?_
  refine walk ?_
  refine s_box rfl rfl rfl ?_
  intro b2
  refine walk ?_
  refine s_box (cs := nv n) rfl rfl rfl ?_
  intro b3
  refine s_alloc rfl ?_
  intro b4
  refine walk ?_
  refine s_call rfl (rCopied (hr.ent InH.ent) ok hK) rfl ?_
  rintro _ _ ⟨bc, kc, sc, bw, kw, sw, bm, km, sm, bp, kp, sp, q, rfl, hq, rfl⟩
  refine WPL.split (Ws q) (WPL.under fun w_ hw_ => ⟨_, hw_, ?_⟩)
  have hws := Ws.rds ⟨w_, hw_.ent (Ent.drop_right _ _)⟩
  clear hw_ w_
  have hql : q.length = 4 := by have := congrArg List.length hq; simp only [List.length_map] at this; omega
  refine walk ?_
  refine s_storeV (vs := (rfC J ⟨⟨o1_, k1_, o2_, k2_, o3_, k3_⟩, some ⟨bc, 0, none⟩, kc, some ⟨bw, 0, none⟩, kw, some ⟨bm, 0, none⟩, km, some ⟨bp, 0, none⟩, kp, q.map (·.1)⟩)) rfl rfl rfl rfl rfl ?_
  refine walk ?_
  refine s_store (v := .int .i64 (J.many + 1)) (cs' := rfC J.nx ⟨⟨o1_, k1_, o2_, k2_, o3_, k3_⟩, some ⟨bc, 0, none⟩, kc, some ⟨bw, 0, none⟩, kw, some ⟨bm, 0, none⟩, km, some ⟨bp, 0, none⟩, kp, q.map (·.1)⟩) rfl rfl rfl (by simp) rfl ?_
  have hjl : j < (J.sem.map (·.2)).length := by rw [List.length_map]; omega
  have hcj : (J.sem.map (·.2))[j] = c := by have := (List.getElem?_eq_some_iff.1 hj).2; rw [List.getElem_map, this]
  have hcl : (zs (J.sem.map (·.2))).length = 4 := by rw [zs_length, List.length_map]; exact hsl
  refine walk ?_
  (apply s_indexAddr (j := j) (o' := j); (· exact rfl); (· exact rfl); (· omega); (· omega); (· omega); (· exact rfl))
  refine walk ?_
  (apply s_indexAddr (j := j) (o' := j); (· exact rfl); (· exact rfl); (· omega); (· omega); (· omega); (· exact rfl))
  refine walk ?_
  refine s_store (v := .int .i64 ((J.sem.map (·.2))[j] - 1)) (cs' := zs ((J.sem.set j (l, c - 1)).map (·.2)) ++ sc) rfl rfl rfl ?_ (by rw [hcj, List.set_append_left _ _ (by omega), zs_map1]) ?_
  · simp only [List.length_append]; omega
  refine walk ?_
  refine s_call rfl (rEnds0 (J := { J.nx with sem := J.sem.set j (l, c - 1) }) (K := K) rfl (by omega) (hr.tab.ent Ent.auto) ok.tab hK) rfl ?_
  rintro _ _ ⟨X, t', rfl, rfl, hX⟩
  refine walk ?_
  refine s_storeV (vs := rfC ({ J.nx with sem := J.sem.set j (l, c - 1) }) ⟨t', some ⟨bc, 0, none⟩, kc, some ⟨bw, 0, none⟩, kw, some ⟨bm, 0, none⟩, km, some ⟨bp, 0, none⟩, kp, q.map (·.1)⟩) rfl rfl rfl rfl rfl ?_
  refine walk ?_
  refine retR1 (.inr rfl) rfl (rv_cellA rfl Cells.blk0 rfl) (own_fin (J := { J.nx with sem := J.sem.set j (l, c - 1) }) (t := t') (sc := sc) (sw := sw) (sm := sm) (sp := sp) (ws := q.map (·.1)) (X := X + Ws q) (cn := zs ((J.sem.set j (l, c - 1)).map (·.2))) rfl rfl ?_ ?_ (by show (List.set _ _ _).length = 4; rw [List.length_set]; exact hsl) (by rw [List.length_map]; exact hql) ?_ ?_ ?_)
  · simp only [HProp.add_assoc]; exact Ent.auto
  · exact (hX G hr0.tab).ent (by simp only [HProp.add_assoc]; exact Ent.auto)
  · exact hmx
  · exact hpx
  · intro i l c hi
    obtain ⟨o, k, e1, e2, _⟩ := ws_rd (by rw [hq, map1_set hj]) hws hi
    exact ⟨o, k, by rw [List.getElem?_map, e1]; rfl, e2.ent (by simp only [HProp.add_assoc]; exact Ent.auto)⟩
theorem do7 (hr0 : RI B G J a) (E : Ent H G) (ok : J.ok K) (hK : K ≤ 90000) (hmay : mayB J n = true) (e : n.kind = 7) {j : Nat} {l : List Int} {c : Int} (hx : n.x = (j : Int)) (hj4 : j < 4) (hj : J.sem[j]? = some (l, c)) (hc0 : 0 ≤ c) (hc1 : c ≤ 1073741824) (hstp : stepI J n = { J.nx with sem := J.sem.set j (l, c + 1) }) :
    Does Tryz.prog B 24 [rfV J a, noteV n] H fun r H' => DoR B H G (stepI J n) r H' := by
  have hst := hstp
  have hr := hr0.ent E
  have hK1 : K + 1 ≤ 100000 := by omega
  have hK : K ≤ 100000 := by omega
  have hml := ok.ml
  have hpl := ok.pl
  have hsl := ok.sl
  have htl := ok.tl
  have hmany := ok.many
  have hcc := ok.c
  obtain ⟨_, c1, c2, c3, c4, c5, c6, _⟩ := hcc
  have hmx : J.ms.length ≤ maxLen := by simp only [maxLen]; omega
  have hpx : J.ps.length ≤ maxLen := by simp only [maxLen]; omega
  rw [hst]
  obtain ⟨⟨o1_, k1_, o2_, k2_, o3_, k3_⟩, oc_, kc_, ow_, kw_, om_, km_, op_, kp_, ws_⟩ := a
  refine Does.weak (R := fun r H' => ∃ G', Ent H' G' ∧ DoR B H G _ r G') ?_ fun v H1 h => h
  refine fn_intro 122 Tryz.func24 rfl rfl rfl ?_
  refine walk ?_
  refine s_box rfl rfl rfl ?_
  intro b2
  refine walk ?_
  refine s_box (cs := nv n) rfl rfl rfl ?_
  intro b3
  refine s_alloc rfl ?_
  intro b4
  refine walk ?_
  refine s_call rfl (rCopied (hr.ent InH.ent) ok hK) rfl ?_
  rintro _ _ ⟨bc, kc, sc, bw, kw, sw, bm, km, sm, bp, kp, sp, q, rfl, hq, rfl⟩
  refine WPL.split (Ws q) (WPL.under fun w_ hw_ => ⟨_, hw_, ?_⟩)
  have hws := Ws.rds ⟨w_, hw_.ent (Ent.drop_right _ _)⟩
  clear hw_ w_
  have hql : q.length = 4 := by have := congrArg List.length hq; simp only [List.length_map] at this; omega
  refine walk ?_
  refine s_storeV (vs := (rfC J ⟨⟨o1_, k1_, o2_, k2_, o3_, k3_⟩, some ⟨bc, 0, none⟩, kc, some ⟨bw, 0, none⟩, kw, some ⟨bm, 0, none⟩, km, some ⟨bp, 0, none⟩, kp, q.map (·.1)⟩)) rfl rfl rfl rfl rfl ?_
  refine walk ?_
  refine s_store (v := .int .i64 (J.many + 1)) (cs' := rfC J.nx ⟨⟨o1_, k1_, o2_, k2_, o3_, k3_⟩, some ⟨bc, 0, none⟩, kc, some ⟨bw, 0, none⟩, kw, some ⟨bm, 0, none⟩, km, some ⟨bp, 0, none⟩, kp, q.map (·.1)⟩) rfl rfl rfl (by simp) rfl ?_
  have hjl : j < (J.sem.map (·.2)).length := by rw [List.length_map]; omega
  have hcj : (J.sem.map (·.2))[j] = c := by have := (List.getElem?_eq_some_iff.1 hj).2; rw [List.getElem_map, this]
  have hcl : (zs (J.sem.map (·.2))).length = 4 := by rw [zs_length, List.length_map]; exact hsl
  refine walk ?_
  (apply s_indexAddr (j := j) (o' := j); (· exact rfl); (· exact rfl); (· omega); (· omega); (· omega); (· exact rfl))
  refine walk ?_
  (apply s_indexAddr (j := j) (o' := j); (· exact rfl); (· exact rfl); (· omega); (· omega); (· omega); (· exact rfl))
  refine walk ?_
  refine s_store (v := .int .i64 ((J.sem.map (·.2))[j] + 1)) (cs' := zs ((J.sem.set j (l, c + 1)).map (·.2)) ++ sc) rfl rfl rfl ?_ (by rw [hcj, List.set_append_left _ _ (by omega), zs_map1]) ?_
  · simp only [List.length_append]; omega
  refine walk ?_
  refine s_call rfl (rEnds0 (J := { J.nx with sem := J.sem.set j (l, c + 1) }) (K := K) rfl (by omega) (hr.tab.ent Ent.auto) ok.tab hK) rfl ?_
  rintro _ _ ⟨X, t', rfl, rfl, hX⟩
  refine walk ?_
  refine s_storeV (vs := rfC ({ J.nx with sem := J.sem.set j (l, c + 1) }) ⟨t', some ⟨bc, 0, none⟩, kc, some ⟨bw, 0, none⟩, kw, some ⟨bm, 0, none⟩, km, some ⟨bp, 0, none⟩, kp, q.map (·.1)⟩) rfl rfl rfl rfl rfl ?_
  refine walk ?_
  refine retR1 (.inr rfl) rfl (rv_cellA rfl Cells.blk0 rfl) (own_fin (J := { J.nx with sem := J.sem.set j (l, c + 1) }) (t := t') (sc := sc) (sw := sw) (sm := sm) (sp := sp) (ws := q.map (·.1)) (X := X + Ws q) (cn := zs ((J.sem.set j (l, c + 1)).map (·.2))) rfl rfl ?_ ?_ (by show (List.set _ _ _).length = 4; rw [List.length_set]; exact hsl) (by rw [List.length_map]; exact hql) ?_ ?_ ?_)
  · simp only [HProp.add_assoc]; exact Ent.auto
  · exact (hX G hr0.tab).ent (by simp only [HProp.add_assoc]; exact Ent.auto)
  · exact hmx
  · exact hpx
  · intro i l c hi
    obtain ⟨o, k, e1, e2, _⟩ := ws_rd (by rw [hq, map1_set hj]) hws hi
    exact ⟨o, k, by rw [List.getElem?_map, e1]; rfl, e2.ent (by simp only [HProp.add_assoc]; exact Ent.auto)⟩
theorem do1 (hr0 : RI B G J a) (E : Ent H G) (ok : J.ok K) (hK : K ≤ 90000) (hmay : mayB J n = true) (e : n.kind = 1)  :
    Does Tryz.prog B 24 [rfV J a, noteV n] H fun r H' => DoR B H G (stepI J n) r H' := by
  have hst := step1 (J := J) e
  have hr := hr0.ent E
  have hK1 : K + 1 ≤ 100000 := by omega
  have hK : K ≤ 100000 := by omega
  have hml := ok.ml
  have hpl := ok.pl
  have hsl := ok.sl
  have htl := ok.tl
  have hmany := ok.many
  have hcc := ok.c
  obtain ⟨_, c1, c2, c3, c4, c5, c6, _⟩ := hcc
  have hmx : J.ms.length ≤ maxLen := by simp only [maxLen]; omega
  have hpx : J.ps.length ≤ maxLen := by simp only [maxLen]; omega
  rw [hst]
  obtain ⟨⟨o1_, k1_, o2_, k2_, o3_, k3_⟩, oc_, kc_, ow_, kw_, om_, km_, op_, kp_, ws_⟩ := a
  refine Does.weak (R := fun r H' => ∃ G', Ent H' G' ∧ DoR B H G _ r G') ?_ fun v H1 h => h
  refine fn_intro 122 Tryz.func24 rfl rfl rfl ?_
  refine walk ?_
  refine s_box rfl rfl rfl ?_
  intro b2
  refine walk ?_
  refine s_box (cs := nv n) rfl rfl rfl ?_
  intro b3
  refine s_alloc rfl ?_
  intro b4
  refine walk ?_
  refine s_call rfl (rCopied (hr.ent InH.ent) ok hK) rfl ?_
  rintro _ _ ⟨bc, kc, sc, bw, kw, sw, bm, km, sm, bp, kp, sp, q, rfl, hq, rfl⟩
  refine WPL.split (Ws q) (WPL.under fun w_ hw_ => ⟨_, hw_, ?_⟩)
  have hws := Ws.rds ⟨w_, hw_.ent (Ent.drop_right _ _)⟩
  clear hw_ w_
  have hql : q.length = 4 := by have := congrArg List.length hq; simp only [List.length_map] at this; omega
  refine walk ?_
  refine s_storeV (vs := (rfC J ⟨⟨o1_, k1_, o2_, k2_, o3_, k3_⟩, some ⟨bc, 0, none⟩, kc, some ⟨bw, 0, none⟩, kw, some ⟨bm, 0, none⟩, km, some ⟨bp, 0, none⟩, kp, q.map (·.1)⟩)) rfl rfl rfl rfl rfl ?_
  refine walk ?_
  refine s_store (v := .int .i64 (J.many + 1)) (cs' := rfC J.nx ⟨⟨o1_, k1_, o2_, k2_, o3_, k3_⟩, some ⟨bc, 0, none⟩, kc, some ⟨bw, 0, none⟩, kw, some ⟨bm, 0, none⟩, km, some ⟨bp, 0, none⟩, kp, q.map (·.1)⟩) rfl rfl rfl (by simp) rfl ?_
  refine walk ?_
  refine s_loadA (vs := RefA.cells ⟨o1_, k1_, o2_, k2_, o3_, k3_⟩ J.tab) rfl (Cells.blk (three rfl rfl rfl)) rfl rfl ?_
  refine walk ?_
  refine s_call rfl (rMake (a := ⟨o1_, k1_, o2_, k2_, o3_, k3_⟩) (K := K) (hr.tab.ent Ent.auto) ok.tab hK) rfl ?_
  rintro _ _ ⟨X1, t1, rfl, rfl, hX1⟩
  refine walk ?_
  refine s_storeA (vs := RefA.cells t1 J.tab.make.2.2) (cs' := rfC ({ J.nx with tab := J.tab.make.2.2 }) ⟨t1, some ⟨bc, 0, none⟩, kc, some ⟨bw, 0, none⟩, kw, some ⟨bm, 0, none⟩, km, some ⟨bp, 0, none⟩, kp, q.map (·.1)⟩) rfl rfl rfl rfl (by show 6 + 3 ≤ 14; omega) rfl ?_
  refine walk ?_
  refine s_call rfl (rEnds0 (J := { J.nx with tab := J.tab.make.2.2 }) (K := K + 1) rfl (by omega) ((hX1 H hr.tab).ent Ent.auto) (ok.tab.make) hK1) rfl ?_
  rintro _ _ ⟨X, t', rfl, rfl, hX⟩
  refine walk ?_
  refine s_storeV (vs := rfC ({ J.nx with tab := J.tab.make.2.2 }) ⟨t', some ⟨bc, 0, none⟩, kc, some ⟨bw, 0, none⟩, kw, some ⟨bm, 0, none⟩, km, some ⟨bp, 0, none⟩, kp, q.map (·.1)⟩) rfl rfl rfl rfl rfl ?_
  refine walk ?_
  refine retR1 (.inr rfl) rfl (rv_cellA rfl Cells.blk0 rfl) (own_fin (J := { J.nx with tab := J.tab.make.2.2 }) (t := t') (sc := sc) (sw := sw) (sm := sm) (sp := sp) (ws := q.map (·.1)) (X := X + (X1 + Ws q)) (cn := zs (J.sem.map (·.2))) rfl rfl ?_ ?_ hsl (by rw [List.length_map]; exact hql) ?_ ?_ ?_)
  · simp only [HProp.add_assoc]; exact Ent.auto
  · exact (hX (X1 + G) (hX1 G hr0.tab)).ent (by simp only [HProp.add_assoc]; exact Ent.auto)
  · exact hmx
  · exact hpx
  · intro i l c hi
    obtain ⟨o, k, e1, e2, _⟩ := ws_rd hq hws hi
    exact ⟨o, k, by rw [List.getElem?_map, e1]; rfl, e2.ent (by simp only [HProp.add_assoc]; exact Ent.auto)⟩
end
end Go.Proofs.YtlhnmbajbhaaoaaGreat
