/- The walk's rules over assertions: code, operations, calls. No condition. -/
import Derived.Test.YtofgpppnknpblaaDoorSLHeap
import Derived.RangeFuncLeaves
import Derived.RangeFuncCalls
import Derived.RangeFuncRecord
import Derived.TacticsIn
set_option linter.unusedSimpArgs false
set_option linter.unusedVariables false
namespace Go.SL
open Go Go.RowKit

/-- A frame: its slots; the blocks of deferred calls that its loops over functions have laid. -/
structure Fr where
  f : Nat → Value
  ds : List Nat
instance : CoeFun Fr (fun _ => Nat → Value) := ⟨Fr.f⟩
theorem Fr.ext' {f g : Fr} (h : ∀ t, f t = g t) (hd : f.ds = g.ds) : f = g := by
  obtain ⟨a, b⟩ := f
  obtain ⟨c, d⟩ := g
  simp only at h hd
  rw [funext h, hd]
def Fr.put (fr : Fr) (d : Nat) (v : Value) : Fr := ⟨fun t => bif Nat.beq t d then v else fr t, fr.ds⟩
def Fr.putO (fr : Fr) (d : Option Nat) (v : Value) : Fr := match d with | some d => fr.put d v | none => fr
/-- The values of the first slots. -/
def Fr.slots : List Value → Nat → Value
  | [], _ => undef
  | v :: _, 0 => v
  | _ :: l, t + 1 => Fr.slots l t
def Fr.init (l : List Value) : Fr := ⟨Fr.slots l, []⟩
theorem Fr.init_eq (l : List Value) : ∀ t, Fr.init l t = l.getD t undef := by
  show ∀ t, Fr.slots l t = l.getD t undef
  induction l with
  | nil => intro t; simp [Fr.slots]
  | cons v l ih =>
    intro t
    cases t with
    | zero => simp [Fr.slots]
    | succ t => simp only [Fr.slots, List.getD_cons_succ]; exact ih t
def memB : List Nat → Nat → Bool
  | [], _ => false
  | d :: l, t => bif Nat.beq t d then true else memB l t
/-- The slots of M hold whatever they hold. -/
def Fr.havoc (fr : Fr) (M : List Nat) (g : Fr) : Fr := ⟨fun t => bif memB M t then g t else fr t, fr.ds⟩
theorem beq_eq (a b : Nat) : Nat.beq a b = decide (a = b) := by
  by_cases h : a = b
  · subst h; simp
  · rw [decide_eq_false h]
    cases hb : Nat.beq a b with
    | false => rfl
    | true => exact absurd (Nat.eq_of_beq_eq_true hb) h
theorem put_same (fr : Fr) (d : Nat) (v : Value) : fr.put d v d = v := by simp [Fr.put]
theorem put_ne (fr : Fr) (d t : Nat) (v : Value) (h : t ≠ d) : fr.put d v t = fr t := by simp [Fr.put, beq_eq, h]
theorem havoc_out (fr g : Fr) (M : List Nat) (t : Nat) (h : memB M t = false) : fr.havoc M g t = fr t := by unfold Fr.havoc; simp only [h]; rfl
theorem put_ds (fr : Fr) (d : Nat) (v : Value) : (fr.put d v).ds = fr.ds := rfl
theorem putO_ds (fr : Fr) (d : Option Nat) (v : Value) : (fr.putO d v).ds = fr.ds := by cases d <;> rfl
theorem havoc_ds (fr g : Fr) (M : List Nat) : (fr.havoc M g).ds = fr.ds := rfl

/-- Two frames that part in the slots of M alone. -/
def Aside (M : List Nat) (f base : Fr) : Prop := (∀ t, memB M t = false → f t = base t) ∧ f.ds = base.ds
theorem Aside.refl (M : List Nat) (f : Fr) : Aside M f f := ⟨fun _ _ => rfl, rfl⟩
theorem Aside.put {M : List Nat} {f base : Fr} {d : Nat} {v : Value} (hd : memB M d = true) (h : Aside M f base) : Aside M (f.put d v) base := by
  refine ⟨fun t ht => ?_, h.2⟩
  by_cases e : t = d
  · subst e; rw [hd] at ht; cases ht
  · rw [put_ne _ _ _ _ e]; exact h.1 t ht
def subB (N M : List Nat) : Bool := N.all (memB M ·)
theorem memB_iff (M : List Nat) (t : Nat) : memB M t = true ↔ t ∈ M := by
  induction M with
  | nil => simp [memB]
  | cons d l ih =>
    unfold memB
    rw [beq_eq]
    by_cases h : t = d <;> simp [h, ih]
theorem Aside.havoc {M N : List Nat} {f base g : Fr} (hd : subB N M = true) (h : Aside M f base) : Aside M (f.havoc N g) base := by
  refine ⟨fun t ht => ?_, h.2⟩
  have : memB N t = false := by
    cases hb : memB N t with
    | false => rfl
    | true =>
      have := (List.all_eq_true.1 hd) t ((memB_iff N t).1 hb)
      rw [this] at ht
      cases ht
  rw [havoc_out _ _ _ _ this]; exact h.1 t ht
theorem Aside.self {M : List Nat} {f base : Fr} (h : Aside M f base) : f = base.havoc M f := by
  refine Fr.ext' (fun t => ?_) h.2
  unfold Fr.havoc
  cases hb : memB M t with
  | true => simp [hb]
  | false => simp only [hb]; exact h.1 t hb
theorem put_self (f : Fr) (d : Nat) (v : Value) (h : f d = v) : f = f.put d v := by
  refine Fr.ext' (fun t => ?_) rfl
  by_cases e : t = d
  · subst e; rw [put_same]; exact h
  · rw [put_ne _ _ _ _ e]

def ev (fr : Fr) : Operand → Value
  | .tmp t => fr t
  | .const v => v
  | .global g => .pointer (some ⟨g, 0, none⟩)
  | .func f => .func (.func f) #[] #[]
theorem ev_tmp (fr : Fr) (t : Nat) : ev fr (.tmp t) = fr t := rfl
theorem ev_const (fr : Fr) (v : Value) : ev fr (.const v) = v := rfl
theorem ev_global (fr : Fr) (g : Nat) : ev fr (.global g) = .pointer (some ⟨g, 0, none⟩) := rfl
theorem ev_func (fr : Fr) (f : Nat) : ev fr (.func f) = .func (.func f) #[] #[] := rfl

def markOf (D : Nat) : Deferred := { target := .collected D, args := #[] }
/-- An activation of n slots that holds the frame. -/
structure Models (n : Nat) (a : Act) (fr : Fr) : Prop where
  size : a.tmps.size = n
  defers : a.defers = fr.ds.map markOf
  slot : ∀ t, a.tmps.getD t undef = fr t
theorem Models.eval {n : Nat} {a : Act} {fr : Fr} (h : Models n a fr) : a.eval = ev fr := by
  funext x
  cases x <;> simp [Act.eval, ev, h.slot]
theorem Models.put {n : Nat} {a : Act} {fr : Fr} (h : Models n a fr) {d : Nat} (hd : d < n) (v : Value) : Models n (a.put (some d) v) (fr.put d v) := by
  refine ⟨by simp [Act.put, h.size], by simp [Act.put, h.defers, put_ds], fun t => ?_⟩
  have hs := h.slot t
  simp only [Act.put, Array.getD_eq_getD_getElem?, Array.getElem?_setIfInBounds] at hs ⊢
  by_cases ht : d = t
  · subst ht; rw [put_same]; simp [h.size, hd]
  · rw [put_ne _ _ _ _ (fun e => ht e.symm)]; simp [ht, hs]
theorem Models.putO {n : Nat} {a : Act} {fr : Fr} (h : Models n a fr) {d : Option Nat} (hd : ∀ k, d = some k → k < n) (v : Value) : Models n (a.put d v) (fr.putO d v) := by
  cases d with
  | none => exact h
  | some d => exact h.put (hd d rfl) v

/-- The fence within which code is walked: ro: the record of the loop over a function whose round this is. -/
def FW (ro : Option Nat) : Fence := { Fence.wide with round := ro }
theorem FW_none : FW none = Fence.wide := rfl
theorem FW_calls {ro : Option Nat} {P : Program} {f : FuncId} {args : Array Value} {w : World} {R : Ending → World → Prop} : CallsIn (FW ro) 0 P f args w R ↔ Calls P f args w R := (callsIn_wide (n := 0))
abbrev Post := Exit → Fr → HProp → Prop
def lift (B : World) (n : Nat) (Q : Post) : Exit → Act → World → Prop :=
  fun e a w => ∃ fr H, Models n a fr ∧ Holds B H w ∧ Q e fr H
def WP (ro : Option Nat) (P : Program) (B : World) (n : Nat) (c : Code) (fr : Fr) (H : HProp) (Q : Post) : Prop :=
  ∀ a w, Models n a fr → Holds B H w → c.wpIn (FW ro) 0 P (lift B n Q) a w
def WPL (ro : Option Nat) (P : Program) (B : World) (n : Nat) (ops : Array Oper) (l : List Oper) (fr : Fr) (H : HProp) (Q : Post) : Prop :=
  ∀ a w, Models n a fr → Holds B H w → wpListIn (FW ro) 0 P ops (lift B n Q) l a w

def QSeq (next : Fr → HProp → Prop) (Q : Post) : Post
  | .normal, fr, H => next fr H
  | e, fr, H => Q e fr H
def QBlk (id : Nat) (Q : Post) : Post
  | .exit id', fr, H => if id' = id then Q .normal fr H else Q (.exit id') fr H
  | e, fr, H => Q e fr H

section control
variable {ro : Option Nat} {P : Program} {B : World} {n : Nat} {fr : Fr} {H : HProp} {Q : Post}

theorem WP.ent {c : Code} {G : HProp} (e : Ent H G) (h : WP ro P B n c fr G Q) : WP ro P B n c fr H Q := fun a w hm hh => h a w hm (hh.ent e)
theorem WP.mono {c : Code} {Q' : Post} (h : WP ro P B n c fr H Q) (q : ∀ e fr H, Q e fr H → Q' e fr H) : WP ro P B n c fr H Q' :=
  fun a w hm hh => wpIn_mono (h a w hm hh) (fun _ _ _ ⟨f, G, m, g, x⟩ => ⟨f, G, m, g, q _ _ _ x⟩)
theorem wp_seq' {x y : Code} (h : WP ro P B n x fr H (QSeq (fun fr H => WP ro P B n y fr H Q) Q)) : WP ro P B n (.seq x y) fr H Q := by
  intro a w hm hh
  refine Go.wpIn_seq (wpIn_mono (h a w hm hh) ?_)
  rintro e a w ⟨f, G, m, g, q⟩
  cases e with
  | normal => exact q a w m g
  | _ => exact ⟨f, G, m, g, q⟩
theorem wp_block' {id : Nat} {c : Code} (h : WP ro P B n c fr H (QBlk id Q)) : WP ro P B n (.block id c) fr H Q := by
  intro a w hm hh
  refine Go.wpIn_block (wpIn_mono (h a w hm hh) ?_)
  rintro e a w ⟨f, G, m, g, q⟩
  cases e with
  | exit id' =>
    simp only [Exit.inBlock]
    have q' : if id' = id then Q .normal f G else Q (.exit id') f G := q
    split
    · rename_i hid; rw [if_pos hid] at q'; exact ⟨f, G, m, g, q'⟩
    · rename_i hid; rw [if_neg hid] at q'; exact ⟨f, G, m, g, q'⟩
  | _ => exact ⟨f, G, m, g, q⟩
theorem wp_skip' (h : Q .normal fr H) : WP ro P B n .skip fr H Q := fun a w hm hh => Go.wpIn_skip ⟨fr, H, hm, hh, h⟩
theorem wp_ret' (h : Q .ret fr H) : WP ro P B n .ret fr H Q := fun a w hm hh => Go.wpIn_ret ⟨fr, H, hm, hh, h⟩
theorem wp_exit' {id : Nat} (h : Q (.exit id) fr H) : WP ro P B n (.exit id) fr H Q := fun a w hm hh => Go.wpIn_exit ⟨fr, H, hm, hh, h⟩
theorem wp_cond_t {c : Operand} {x y : Code} (hc : ev fr c = .bool true) (h : WP ro P B n x fr H Q) : WP ro P B n (.cond c x y) fr H Q :=
  fun a w hm hh => Go.wpIn_cond_true (by rw [hm.eval]; exact hc) (h a w hm hh)
theorem wp_cond_f {c : Operand} {x y : Code} (hc : ev fr c = .bool false) (h : WP ro P B n y fr H Q) : WP ro P B n (.cond c x y) fr H Q :=
  fun a w hm hh => Go.wpIn_cond_false (by rw [hm.eval]; exact hc) (h a w hm hh)
theorem wp_cond_b {c : Operand} {x y : Code} {b : Bool} (hc : ev fr c = .bool b) (ht : b = true → WP ro P B n x fr H Q) (hf : b = false → WP ro P B n y fr H Q) :
    WP ro P B n (.cond c x y) fr H Q := by
  cases b
  · exact wp_cond_f hc (hf rfl)
  · exact wp_cond_t hc (ht rfl)
theorem wp_region' {id : Nat} {l : List Oper} (h : WPL ro P B n l.toArray l fr H Q) : WP ro P B n (.region id l.toArray false) fr H Q :=
  fun a w hm hh => wpIn_region_lit (h a w hm hh)
theorem wpl_nil {ops : Array Oper} (h : Q .normal fr H) : WPL ro P B n ops [] fr H Q := fun a w hm hh => wpListIn_nil ⟨fr, H, hm, hh, h⟩
theorem wpl_nil_seq {ops : Array Oper} {next : Fr → HProp → Prop} (h : next fr H) : WPL ro P B n ops [] fr H (QSeq next Q) := wpl_nil h
theorem WPL.ent {ops : Array Oper} {l : List Oper} {G : HProp} (e : Ent H G) (h : WPL ro P B n ops l fr G Q) : WPL ro P B n ops l fr H Q := fun a w hm hh => h a w hm (hh.ent e)
theorem WPL.ex_out {ops : Array Oper} {l : List Oper} {α : Type} {G : α → HProp} (h : ∀ x, WPL ro P B n ops l fr (G x) Q) : WPL ro P B n ops l fr (ex G) Q :=
  fun a w hm hh => let ⟨x, hx⟩ := hh.ex_out; h x a w hm hx

theorem q_seq {next : Fr → HProp → Prop} (h : next fr H) : QSeq next Q .normal fr H := h
theorem q_seq_ret {next : Fr → HProp → Prop} (h : Q .ret fr H) : QSeq next Q .ret fr H := h
theorem q_seq_exit {next : Fr → HProp → Prop} {id : Nat} (h : Q (.exit id) fr H) : QSeq next Q (.exit id) fr H := h
theorem q_blk {id : Nat} (h : Q .normal fr H) : QBlk id Q .normal fr H := h
theorem q_blk_ret {id : Nat} (h : Q .ret fr H) : QBlk id Q .ret fr H := h
theorem q_blk_here {id : Nat} (h : Q .normal fr H) : QBlk id Q (.exit id) fr H := by show if id = id then Q .normal fr H else Q (.exit id) fr H; rw [if_pos rfl]; exact h
theorem q_blk_exit {id id' : Nat} (hne : (id' == id) = false) (h : Q (.exit id') fr H) : QBlk id Q (.exit id') fr H := by
  show if id' = id then Q .normal fr H else Q (.exit id') fr H; rw [if_neg (by simpa using hne)]; exact h

/-- A loop: x tells all that turns from round to round. -/
theorem wp_loop' {α : Type} {c : Code} (F : α → Fr) (G : α → HProp) (ok : α → Prop) (μ : α → Nat) (x0 : α) (hF : fr = F x0) (hG : Ent H (G x0)) (hok : ok x0)
    (round : ∀ x, ok x → WP ro P B n c (F x) (G x) (QSeq (fun fr' H' => ∃ y, fr' = F y ∧ Ent H' (G y) ∧ ok y ∧ μ y < μ x) Q)) : WP ro P B n (.loop c) fr H Q := by
  intro a w hm hh
  subst hF
  have key : ∀ m x a w, μ x = m → ok x → Models n a (F x) → Holds B (G x) w → (Code.loop c).wpIn (FW ro) 0 P (lift B n Q) a w := by
    intro m x a w _ hx hmx hgx
    let I : Act → World → Prop := fun a w => ∃ x, ok x ∧ Models n a (F x) ∧ Holds B (G x) w
    let M : Act → World → Nat → Prop := fun a w k => ∃ x, ok x ∧ Models n a (F x) ∧ Holds B (G x) w ∧ μ x = k
    classical
    let ν : Act → World → Nat := fun a w => if h : ∃ k, M a w k ∧ ∀ j, M a w j → k ≤ j then Classical.choose h else 0
    have least : ∀ a w, I a w → M a w (ν a w) ∧ ∀ j, M a w j → ν a w ≤ j := by
      rintro a w ⟨x, h1, h2, h3⟩
      have hex : ∃ k, M a w k ∧ ∀ j, M a w j → k ≤ j := by
        have hst : ∀ k, M a w k → ∃ k', M a w k' ∧ ∀ j, M a w j → k' ≤ j := by
          intro k
          induction k using Nat.strongRecOn with
          | _ k ih =>
            intro hk
            by_cases hl : ∀ j, M a w j → k ≤ j
            · exact ⟨k, hk, hl⟩
            · simp only [Classical.not_forall] at hl
              obtain ⟨j, hj, hlt⟩ := hl
              exact ih j (by omega) hj
        exact hst _ ⟨x, h1, h2, h3, rfl⟩
      show M a w (if h : ∃ k, M a w k ∧ ∀ j, M a w j → k ≤ j then Classical.choose h else 0) ∧ ∀ j, M a w j → (if h : ∃ k, M a w k ∧ ∀ j, M a w j → k ≤ j then Classical.choose h else 0) ≤ j
      rw [dif_pos hex]
      exact Classical.choose_spec hex
    refine Go.wpIn_loop I ν ⟨x, hx, hmx, hgx⟩ ?_
    intro a w hI
    obtain ⟨x, h1, h2, h3, h4⟩ := (least a w hI).1
    refine wpIn_mono (round x h1 a w h2 h3) ?_
    rintro e a' w' ⟨f, G', m', g', q⟩
    cases e with
    | normal =>
      obtain ⟨y, rfl, hy, hoky, hlt⟩ := q
      have hI' : I a' w' := ⟨y, hoky, m', g'.ent hy⟩
      refine ⟨hI', ?_⟩
      have := (least a' w' hI').2 (μ y) ⟨y, hoky, m', g'.ent hy, rfl⟩
      omega
    | _ => exact ⟨f, G', m', g', q⟩
  exact key _ x0 a w rfl hok hm (hh.ent hG)
/-- Slots that hold what is told. -/
def Agrees (f : Fr) : List (Nat × Value) → Prop
  | [] => True
  | (d, v) :: l => f d = v ∧ Agrees f l
def putAll (f : Fr) : List (Nat × Value) → Fr
  | [] => f
  | (d, v) :: l => (putAll f l).put d v
theorem putAll_self (f : Fr) (l : List (Nat × Value)) (h : Agrees f l) : putAll f l = f := by
  induction l with
  | nil => rfl
  | cons p l ih =>
    obtain ⟨d, v⟩ := p
    obtain ⟨h1, h2⟩ := h
    unfold putAll
    rw [ih h2]
    exact (put_self f d v h1).symm
/-- A loop: M: the slots that its body writes; S: those of them that are read at the head, and what they hold; x: what turns from round to round. -/
theorem wp_loopF {α : Type} {c : Code} (M : List Nat) (S : α → List (Nat × Value)) (G : α → HProp) (ok : α → Prop) (μ : α → Nat) (x0 : α)
    (h0 : Agrees fr (S x0)) (hG : Ent H (G x0)) (hok : ok x0)
    (round : ∀ x g, ok x → WP ro P B n c (putAll (fr.havoc M g) (S x)) (G x)
      (QSeq (fun fr' H' => ∃ y, Aside M fr' fr ∧ Agrees fr' (S y) ∧ Ent H' (G y) ∧ ok y ∧ μ y < μ x) Q)) : WP ro P B n (.loop c) fr H Q := by
  refine wp_loop' (α := α × Fr) (fun x => putAll (fr.havoc M x.2) (S x.1)) (fun x => G x.1) (fun x => ok x.1) (fun x => μ x.1) (x0, fr) ?_ hG hok ?_
  · have e : fr.havoc M fr = fr := ((Aside.refl M fr).self).symm
    simp only [e]
    exact (putAll_self fr _ h0).symm
  · intro x hx
    refine (round x.1 x.2 hx).mono ?_
    intro e f K q
    cases e with
    | normal =>
      obtain ⟨y, ho, ha, he, hy, hm⟩ := q
      refine ⟨(y, f), ?_, he, hy, hm⟩
      show f = putAll (fr.havoc M f) (S y)
      rw [← ho.self]
      exact (putAll_self f _ ha).symm
    | _ => exact q
end control

/-- What a call of a function answers, and leaves. -/
def Does (P : Program) (B : World) (f : FuncId) (args : List Value) (H : HProp) (R : Value → HProp → Prop) : Prop :=
  ∀ w, Holds B H w → Calls P f args.toArray w fun e w' => ∃ v H', e = .returned v ∧ Holds B H' w' ∧ R v H'
theorem Does.mono {P : Program} {B : World} {f : FuncId} {args : List Value} {H : HProp} {R R' : Value → HProp → Prop} (h : Does P B f args H R) (k : ∀ v H, R v H → R' v H) : Does P B f args H R' :=
  fun w hw => (h w hw).mono fun _ _ ⟨v, G, e, g, r⟩ => ⟨v, G, e, g, k _ _ r⟩
theorem Does.ent {P : Program} {B : World} {f : FuncId} {args : List Value} {H G : HProp} {R : Value → HProp → Prop} (e : Ent H G) (h : Does P B f args G R) : Does P B f args H R :=
  fun w hw => h w (hw.ent e)

/-- The blocks of deferred calls that an activation's loops over functions have laid. -/
def marks : List Nat → HProp
  | [] => emp
  | D :: l => obj D (.deferred (some [])) + marks l
/-- What stands behind a body. -/
def QRet (P : Program) (B : World) (fn : Func) (R : Value → HProp → Prop) : Post := fun e fr H =>
  (e = .normal ∨ e = .ret) ∧ ∃ v G G', Ent H (marks fr.ds + G) ∧ (∀ a w, (∀ t, a.getD t undef = fr t) → Holds B G w → (results fn a).run P w = .ok v w) ∧ Ent G G' ∧ R v G'
theorem leaves_marks {P : Program} {B : World} {fn : Func} {tmps : Array Value} {G : HProp} {R : Ending → World → Prop} (h : ∀ w, Holds B G w → LeavesIn (FW none) 0 P fn tmps R [] .returning w) :
    ∀ (ds : List Nat) (w : World), Holds B (marks ds + G) w → LeavesInM (FW none) 0 P fn tmps R (ds.map markOf) .returning w
  | [], w, hw => by
    unfold marks at hw
    rw [HProp.emp_add] at hw
    exact h w hw
  | D :: ds, w, hw => by
    unfold marks at hw
    rw [HProp.add_assoc] at hw
    refine ⟨by simp, .inl ⟨D, _, rfl, run_takeDeferred hw.obj.1, leaves_marks h ds _ ?_⟩⟩
    have hlt : D < w.heap.size := (Array.getElem?_eq_some_iff.1 hw.obj.1).1
    exact (Holds.upd (o' := .deferred none) (w' := w.putObj D (.deferred none)) hw rfl rfl rfl (by simp [World.putObj]) (World.putObj_heap_same hlt) fun k hk => World.putObj_heap_other hk).drop_left
theorem fn_intro (n : Nat) {P : Program} {B : World} {f : FuncId} {fn : Func} {c : Code} {args : List Value} {H : HProp} {R : Value → HProp → Prop}
    (hf : P.funcs[f]? = some fn) (hb : fn.body = some c) (hnn : fn.ntmps = n) (hn : Nat.ble args.length n = true)
    (h : WP none P B n c (Fr.init args) H (QRet P B fn R)) : Does P B f args H R := by
  intro w hw
  subst hnn
  have hn := Nat.le_of_ble_eq_true hn
  refine FW_calls.1 (callsIn_of_wp_marks hf hb trivial ?_)
  have hm : Models fn.ntmps { tmps := args.toArray ++ Array.replicate (fn.ntmps - args.toArray.size) undef, defers := [] } (Fr.init args) := by
    refine ⟨by simp; omega, rfl, fun t => ?_⟩
    simp only [Fr.init_eq, Array.getD_eq_getD_getElem?, List.getD_eq_getElem?_getD, Array.getElem?_append, List.size_toArray, List.getElem?_toArray, Array.getElem?_replicate]
    by_cases ht : t < args.length
    · simp [ht]
    · simp only [ht, if_false]
      split <;> simp [List.getElem?_eq_none (Nat.le_of_not_lt ht)]
  refine wpIn_mono (h _ w hm hw) ?_
  rintro e a w' ⟨f, G0, m, g, he, v, G, G', hG, hr, hG', hR⟩
  have key : LeavesInM (FW none) 0 P fn a.tmps (fun e w' => ∃ v H', e = .returned v ∧ Holds B H' w' ∧ R v H') a.defers .returning w' := by
    rw [m.defers]
    refine leaves_marks (G := G) (fun w hw => ?_) f.ds w' (g.ent hG)
    exact ⟨v, hr a.tmps w m.slot hw, v, G', rfl, hw.ent hG', hR⟩
  rcases he with rfl | rfl
  · exact key
  · exact key

theorem ret1 {P : Program} {B : World} {fn : Func} {R : Value → HProp → Prop} {e : Exit} {fr : Fr} {H : HProp} {t : Nat} {v : Value} (he : e = .normal ∨ e = .ret)
    (hr : fn.results = #[.tmp t]) (hv : fr t = v) (h : R v H) (hds : fr.ds = [] := by rfl) : QRet P B fn R e fr H :=
  ⟨he, v, H, H, by rw [hds]; unfold marks; rw [HProp.emp_add]; exact Ent.refl _, fun a w ha _ => by rw [results_tmp hr, ha, hv], Ent.refl _, h⟩
theorem ret0 {P : Program} {B : World} {fn : Func} {R : Value → HProp → Prop} {e : Exit} {fr : Fr} {H : HProp} (he : e = .normal ∨ e = .ret)
    (hr : fn.results = #[]) (h : R (.tuple #[]) H) (hds : fr.ds = [] := by rfl) : QRet P B fn R e fr H :=
  ⟨he, _, H, H, by rw [hds]; unfold marks; rw [HProp.emp_add]; exact Ent.refl _, fun a w _ _ => by rw [results_none hr], Ent.refl _, h⟩
theorem ret2 {P : Program} {B : World} {fn : Func} {R : Value → HProp → Prop} {e : Exit} {fr : Fr} {H : HProp} {t u : Nat} {v x : Value} (he : e = .normal ∨ e = .ret)
    (hr : fn.results = #[.tmp t, .tmp u]) (hv : fr t = v) (hx : fr u = x) (h : R (.tuple #[v, x]) H) (hds : fr.ds = [] := by rfl) : QRet P B fn R e fr H :=
  ⟨he, _, H, H, by rw [hds]; unfold marks; rw [HProp.emp_add]; exact Ent.refl _, fun a w ha _ => by rw [results_tmp2 hr, ha, ha, hv, hx], Ent.refl _, h⟩
theorem ret3 {P : Program} {B : World} {fn : Func} {R : Value → HProp → Prop} {e : Exit} {fr : Fr} {H : HProp} {t u s : Nat} {v x y : Value} (he : e = .normal ∨ e = .ret)
    (hr : fn.results = #[.tmp t, .tmp u, .tmp s]) (hv : fr t = v) (hx : fr u = x) (hy : fr s = y) (h : R (.tuple #[v, x, y]) H) (hds : fr.ds = [] := by rfl) : QRet P B fn R e fr H :=
  ⟨he, _, H, H, by rw [hds]; unfold marks; rw [HProp.emp_add]; exact Ent.refl _, fun a w ha _ => by rw [results_tmp3 hr, ha, ha, ha, hv, hx, hy], Ent.refl _, h⟩
end Go.SL
