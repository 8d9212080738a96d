/- Walking by explicit rules, part B: what a world keeps; a region in one order that stands for all. Plain theorems over any program. -/
import Derived.Test.YtnaajldlloglkaaDoorHA
set_option linter.unusedVariables false
set_option linter.unusedSimpArgs false
namespace Go.H
open Go.RowKit

/-! ### 4. What a world keeps -/
abbrev Heap := Array Obj
/-- What a block's cells are of. -/
def ty (h : Heap) (b : Nat) : Option TypeId :=
  match h[b]? with
  | some (.cells _ t _) => some t
  | _ => none
abbrev Fp := Nat → Option TypeId → Prop
/-- All is as it was but the blocks of S, and what is new. -/
structure Upd (S : Fp) (w w' : World) : Prop where
  os : w'.os = w.os
  tape : w'.tape = w.tape
  output : w'.output = w.output
  size : w.heap.size ≤ w'.heap.size
  keep : ∀ b, b < w.heap.size → ¬ S b (ty w.heap b) → w'.heap[b]? = w.heap[b]?
abbrev none' : Fp := fun _ _ => False
abbrev Ext (w w' : World) : Prop := Upd none' w w'
theorem Upd.refl (S : Fp) (w : World) : Upd S w w := ⟨rfl, rfl, rfl, Nat.le_refl _, fun _ _ _ => rfl⟩
theorem ty_of_get {h h' : Heap} {b : Nat} (e : h'[b]? = h[b]?) : ty h' b = ty h b := by unfold ty; rw [e]
theorem Ext.get {w w' : World} (h : Ext w w') {b : Nat} (hb : b < w.heap.size) : w'.heap[b]? = w.heap[b]? := h.keep b hb (fun f => f)
theorem Ext.ty {w w' : World} (h : Ext w w') {b : Nat} (hb : b < w.heap.size) : ty w'.heap b = ty w.heap b := ty_of_get (h.get hb)
/-- First from a to b, then from b to c; the blocks that b has beyond a's may turn. -/
theorem Upd.trans {S S' : Fp} {a b c : World} (h : Upd S a b) (k : Upd S' b c) (hs : ∀ i, i < a.heap.size → ¬ S i (Go.H.ty a.heap i) → S' i (Go.H.ty a.heap i) → False) : Upd S a c :=
  ⟨k.os.trans h.os, k.tape.trans h.tape, k.output.trans h.output, Nat.le_trans h.size k.size, fun i hi hn => by
    have h1 := h.keep i hi hn
    rw [k.keep i (Nat.lt_of_lt_of_le hi h.size) (by rw [ty_of_get h1]; exact fun hh => hs i hi hn hh), h1]⟩
theorem Ext.trans {a b c : World} (h : Ext a b) (k : Ext b c) : Ext a c := Upd.trans h k (fun _ _ _ f => f)
theorem Ext.upd {S : Fp} {a b : World} (h : Ext a b) : Upd S a b := ⟨h.os, h.tape, h.output, h.size, fun i hi _ => h.get hi⟩
theorem Upd.mono {S S' : Fp} {a b : World} (h : Upd S a b) (hs : ∀ i, i < a.heap.size → S i (Go.H.ty a.heap i) → S' i (Go.H.ty a.heap i)) : Upd S' a b := ⟨h.os, h.tape, h.output, h.size, fun i hi hn => h.keep i hi (fun hh => hn (hs i hi hh))⟩
/-- What turns is all new since a. -/
theorem Ext.of_new {S : Fp} {a b c : World} (h : Ext a b) (k : Upd S b c) (hs : ∀ i, i < a.heap.size → S i (Go.H.ty a.heap i) → False) : Ext a c := Upd.trans h k (fun i hi _ hh => hs i hi hh)
theorem Upd.ext_left {S : Fp} {a b c : World} (h : Ext a b) (k : Upd S b c) : Upd S a c := ⟨k.os.trans h.os, k.tape.trans h.tape, k.output.trans h.output, Nat.le_trans h.size k.size, fun i hi hn => by
    rw [k.keep i (Nat.lt_of_lt_of_le hi h.size) (by rw [h.ty hi]; exact hn), h.get hi]⟩
theorem Upd.ext_right {S : Fp} {a b c : World} (h : Upd S a b) (k : Ext b c) : Upd S a c := Upd.trans h k (fun _ _ _ f => f)
theorem Ext.drew (w : World) : Ext w w.drew := ⟨rfl, rfl, rfl, Nat.le_refl _, fun _ _ _ => rfl⟩
theorem Ext.alloc (w : World) (o : Obj) : Ext w (w.alloc o) := ⟨rfl, rfl, rfl, by simp, fun k hk _ => Below.heap_alloc _ _ _ hk⟩
theorem Ext.below {w w' : World} (h : Ext w w') : Below w.heap.size w w' := ⟨h.os, h.tape, h.output, h.size, fun k hk => h.get hk⟩
theorem Ext.of_below {w w' : World} (h : Below w.heap.size w w') : Ext w w' := ⟨h.os, h.tape, h.output, h.size, fun k hk _ => h.block k hk⟩

/-! ### 5. A region: one order that stands for all -/
/-- Of an operation: W it looks at no memory, L it looks at memory, X it makes memory or calls, and leaves all that was; M it turns memory. -/
inductive Cls where
  | W | L | X | M
def Cls.isM : Cls → Bool
  | .M => true
  | _ => false
/-- Whatever an operation says of a panic, its own slot says nothing of it. -/
def PS (Q : Exit → Act → World → Prop) : Prop := ∀ c a d v w, Q (.panic c) (a.put d v) w → Q (.panic c) a w
theorem put_defers (a : Act) (d : Option Tmp) (v : Value) : (a.put d v).defers = a.defers := by cases d <;> rfl
theorem PS.body {P : Program} {fn : Func} {R : Ending → World → Prop} : PS (bodyPost P fn R) := fun c a d v w h => by
  simp only [bodyPost] at h ⊢
  rwa [put_defers] at h
theorem PS.then {J : Act → World → Prop} {Q : Exit → Act → World → Prop} (h : PS Q) : PS (Exit.then J Q) := fun c a d v w hh => h c a d v w hh
theorem PS.block {id : Nat} {Q : Exit → Act → World → Prop} (h : PS Q) : PS (Exit.inBlock id Q) := fun c a d v w hh => h c a d v w hh

section
variable {P : Program} {ops : Array Oper} {Q : Exit → Act → World → Prop}

def needs (o : Oper) : List Nat := (o.after.toList.filter (fun e => Region.binds .any e)).map (·.on)
theorem needs_mem {o : Oper} {n : Nat} : n ∈ needs o ↔ ∃ e ∈ o.after, Region.binds .any e = true ∧ e.on = n := by
  simp only [needs, List.mem_map, List.mem_filter, Array.mem_toList_iff]
  constructor
  · rintro ⟨e, ⟨h1, h2⟩, h3⟩; exact ⟨e, h1, h2, h3⟩
  · rintro ⟨e, h1, h2, h3⟩; exact ⟨e, ⟨h1, h2⟩, h3⟩

/-- Whatever order is picked from here on, and what is not of ds leaves all that was. -/
def wpX (P : Program) (ops : Array Oper) (Q : Exit → Act → World → Prop) (ds : List Nat) : Nat → Array Bool → Act → World → Prop
  | 0, listed, a, w => Region.ready .any ops listed = [] ∧ Q .normal a w
  | fuel + 1, listed, a, w =>
    (Region.ready .any ops listed = [] → Q .normal a w) ∧
    ∀ i ∈ Region.ready .any ops listed, wpOp P ops Q i (fun a' w' => (i ∉ ds → Ext w w') ∧ wpX P ops Q ds fuel (listed.setIfInBounds i true) a' w') a w
theorem wpAny_of_X {ds : List Nat} : ∀ (fuel : Nat) (listed : Array Bool) (a : Act) (w : World), wpX P ops Q ds fuel listed a w → wpAny P .any ops Q fuel listed a w
  | 0, _, _, _, h => h
  | fuel + 1, _, _, _, h => ⟨h.1, fun i hi => wpOp_mono (fun a' w' h' => wpAny_of_X fuel _ a' w' h'.2) (h.2 i hi)⟩
theorem YieldsIf.mono {S S' : World → Prop} {o : Oper} {v : Value} {a : Act} (h : YieldsIf P ops S o v a) (hs : ∀ w, S' w → S w) : YieldsIf P ops S' o v a :=
  h.imp (fun ⟨hw, hv⟩ => ⟨hw, fun w hh => hv w (hs w hh)⟩) id

/-- What is listed is closed under the edges. -/
def LClosed (ops : Array Oper) (listed : Array Bool) : Prop := ∀ j oj, ops[j]? = some oj → listed.getD j false = true → ∀ n ∈ needs oj, listed.getD n false = true
theorem LClosed.set {listed : Array Bool} {i : Nat} (h : LClosed ops listed) (hi : i ∈ Region.ready .any ops listed) : LClosed ops (listed.setIfInBounds i true) := by
  obtain ⟨_, oi, hoi, hall⟩ := mem_ready.1 hi
  intro j oj hj hl n hn
  obtain ⟨e, he, hb, rfl⟩ := needs_mem.1 hn
  by_cases hij : i = j
  · subst hij
    have : oj = oi := Option.some.inj (hj.symm.trans hoi)
    subst this
    exact getD_set_true (hall e he hb)
  · rw [getD_set_ne false hij] at hl
    exact getD_set_true (h j oj hj hl _ hn)

/-- The bits of B at d: what d waits for. -/
def bitsUp (B : List Nat) (d : Nat) : List Nat → Nat
  | [] => 0
  | n :: r => (2 ^ n ||| (if n < d then B.getD n 0 else 0)) ||| bitsUp B d r
def waitsOk (ops : List Oper) (B : List Nat) : Bool := (List.range ops.length).all fun d => match ops[d]? with
  | some o => Nat.beq (B.getD d 0 ||| bitsUp B d (needs o)) (bitsUp B d (needs o))
  | none => false
theorem bitsUp_bit {B : List Nat} {d i : Nat} : ∀ {ns : List Nat}, (bitsUp B d ns).testBit i = true → ∃ n ∈ ns, n = i ∨ (n < d ∧ (B.getD n 0).testBit i = true)
  | [], h => by simp [bitsUp] at h
  | n :: r, h => by
    unfold bitsUp at h
    rw [Nat.testBit_or, Nat.testBit_or, Bool.or_eq_true, Bool.or_eq_true] at h
    rcases h with (h | h) | h
    · rw [Nat.testBit_two_pow] at h
      exact ⟨n, List.mem_cons_self, .inl (by simpa using h)⟩
    · by_cases hn : n < d
      · rw [if_pos hn] at h
        exact ⟨n, List.mem_cons_self, .inr ⟨hn, h⟩⟩
      · rw [if_neg hn] at h
        simp at h
    · obtain ⟨m, hm, h2⟩ := bitsUp_bit h
      exact ⟨m, List.mem_cons_of_mem _ hm, h2⟩
/-- What is listed has all listed that it waits for. -/
theorem waits_listed {listed : Array Bool} {B : List Nat} (hw : waitsOk ops.toList B = true) (hc : LClosed ops listed) : ∀ (k d : Nat), d ≤ k → listed.getD d false = true → d < ops.size → ∀ i, (B.getD d 0).testBit i = true → listed.getD i false = true := by
  intro k
  induction k with
  | zero =>
    intro d hd hl hlt i hb
    obtain rfl : d = 0 := by omega
    have h1 := List.all_eq_true.1 hw 0 (List.mem_range.2 (by simpa using hlt))
    have ho : ops.toList[0]? = some ops[0] := by simp [hlt]
    rw [ho] at h1
    have h2 := Nat.eq_of_beq_eq_true h1
    have h3 : (bitsUp B 0 (needs ops[0])).testBit i = true := by rw [← h2, Nat.testBit_or, hb, Bool.true_or]
    obtain ⟨n, hn, h4⟩ := bitsUp_bit h3
    have h5 := hc 0 ops[0] (by simp [hlt]) hl n hn
    rcases h4 with rfl | ⟨h6, _⟩
    · exact h5
    · omega
  | succ k ih =>
    intro d hd hl hlt i hb
    have h1 := List.all_eq_true.1 hw d (List.mem_range.2 (by simpa using hlt))
    have ho : ops.toList[d]? = some ops[d] := by simp [hlt]
    rw [ho] at h1
    have h2 := Nat.eq_of_beq_eq_true h1
    have h3 : (bitsUp B d (needs ops[d])).testBit i = true := by rw [← h2, Nat.testBit_or, hb, Bool.true_or]
    obtain ⟨n, hn, h4⟩ := bitsUp_bit h3
    have h5 := hc d ops[d] (by simp [hlt]) hl n hn
    rcases h4 with rfl | ⟨h6, h7⟩
    · exact h5
    · exact ih n (by omega) h5 (by omega) i h7

theorem wpX_first {i : Nat} {oi : Oper} {v : Value} {ds : List Nat} {B : List Nat} (hw : waitsOk ops.toList B = true) (hi : ops[i]? = some oi) (hsel : ∀ (j : Nat) (o : Oper) cs b, ops[j]? = some o → o.op ≠ .select cs b)
    (hQ : PS Q) :
    ∀ (fuel : Nat) (listed : Array Bool) (a : Act) (w : World),
      (∀ j oj, ops[j]? = some oj → j ≠ i → listed.getD j true = false → (∀ e ∈ oj.after, Region.binds .any e = true → e.on ≠ i) → oi.apart ops oj = true) →
      LClosed ops listed → (∀ d ∈ ds, listed.getD d true = false → (B.getD d 0).testBit i = true) →
      i ∈ Region.ready .any ops listed → YieldsIf P ops (Ext w) oi v a →
      wpX P ops Q ds fuel (listed.setIfInBounds i true) (a.put oi.dst v) w → wpX P ops Q ds (fuel + 1) listed a w := by
  intro fuel
  induction fuel with
  | zero =>
    intro listed a w _ _ _ hr hy H
    refine ⟨fun h => (by rw [h] at hr; cases hr), fun j hj => ?_⟩
    by_cases hji : j = i
    · subst hji; exact hy.wpOp hi (Upd.refl _ w) ⟨fun _ => Upd.refl _ w, H⟩
    · have := ready_mono hj hji
      rw [H.1] at this
      cases this
  | succ fuel ih =>
    intro listed a w hfree hc hd hr hy H
    refine ⟨fun h => (by rw [h] at hr; cases hr), fun j hj => ?_⟩
    by_cases hji : j = i
    · subst hji; exact hy.wpOp hi (Upd.refl _ w) ⟨fun _ => Upd.refl _ w, H⟩
    · have h1 := H.2 j (ready_mono hj hji)
      obtain ⟨hjun, oj, hoj, hall⟩ := mem_ready.1 hj
      have hiun := (mem_ready.1 hr).1
      have hilt : i < listed.size := by
        rcases Nat.lt_or_ge i listed.size with h' | h'
        · exact h'
        · simp [Array.getElem?_eq_none h'] at hiun
      have hif : listed.getD i false = false := by
        simp [hilt] at hiun ⊢
        exact hiun
      have hnot : ∀ e ∈ oj.after, Region.binds .any e = true → e.on ≠ i := fun e he hb heq => by
        have h1 := hall e he hb
        rw [heq, hif] at h1
        cases h1
      have hjd : j ∉ ds := fun hm => by
        have hb := hd j hm hjun
        have hjlt : j < ops.size := (Array.getElem?_eq_some_iff.1 hoj).1
        have h1 := List.all_eq_true.1 hw j (List.mem_range.2 (by simpa using hjlt))
        have ho : ops.toList[j]? = some oj := by rw [Array.getElem?_toList]; exact hoj
        rw [ho] at h1
        have h2 := Nat.eq_of_beq_eq_true h1
        have h3 : (bitsUp B j (needs oj)).testBit i = true := by rw [← h2, Nat.testBit_or, hb, Bool.true_or]
        obtain ⟨n, hn, h4⟩ := bitsUp_bit h3
        obtain ⟨e, he, hbd, rfl⟩ := needs_mem.1 hn
        have h5 := hall e he hbd
        rcases h4 with h4 | ⟨h6, h7⟩
        · exact hnot e he hbd h4
        · have := waits_listed hw hc _ _ (Nat.le_refl _) h5 (by omega) i h7
          rw [hif] at this
          cases this
      have h2 := wpOp_putIf hoj (hfree j oj hoj hji hjun hnot) (fun cs b => hsel i oi cs b hi) (fun cs b => hsel j oj cs b hoj) (fun c a w => hQ c a oi.dst v w) hy h1
      have hfree' : ∀ k ok, ops[k]? = some ok → k ≠ i → (listed.setIfInBounds j true).getD k true = false →
          (∀ e ∈ ok.after, Region.binds .any e = true → e.on ≠ i) → oi.apart ops ok = true := fun k ok hk hki hun hno => by
        refine hfree k ok hk hki ?_ hno
        by_cases hjk : j = k
        · subst hjk; exact hjun
        · rw [getD_set_ne true hjk] at hun; exact hun
      have hd' : ∀ d ∈ ds, (listed.setIfInBounds j true).getD d true = false → (B.getD d 0).testBit i = true := fun d hm hun => by
        refine hd d hm ?_
        by_cases hjk : j = d
        · subst hjk; exact hjun
        · rw [getD_set_ne true hjk] at hun; exact hun
      refine wpOp_mono (fun a' w' h3 => ⟨h3.2.1, ?_⟩) h2
      have hx := h3.2.1 hjd
      refine ih (listed.setIfInBounds j true) a' w' hfree' (hc.set hj) hd' (ready_mono hr (Ne.symm hji)) (YieldsIf.mono h3.1 (fun w2 h => Ext.trans hx h)) ?_
      rw [Array.setIfInBounds_comm _ _ hji]
      exact h3.2.2
/-- What looks at no memory: whatever turns it. -/
theorem wpX_any {i : Nat} {oi : Oper} {v : Value} {ds : List Nat} (hi : ops[i]? = some oi) (hsel : ∀ (j : Nat) (o : Oper) cs b, ops[j]? = some o → o.op ≠ .select cs b)
    (hQ : PS Q) :
    ∀ (fuel : Nat) (listed : Array Bool) (a : Act) (w : World),
      (∀ j oj, ops[j]? = some oj → j ≠ i → listed.getD j true = false → (∀ e ∈ oj.after, Region.binds .any e = true → e.on ≠ i) → oi.apart ops oj = true) →
      i ∈ Region.ready .any ops listed → YieldsIf P ops (fun _ => True) oi v a →
      wpX P ops Q ds fuel (listed.setIfInBounds i true) (a.put oi.dst v) w → wpX P ops Q ds (fuel + 1) listed a w := by
  intro fuel
  induction fuel with
  | zero =>
    intro listed a w _ hr hy H
    refine ⟨fun h => (by rw [h] at hr; cases hr), fun j hj => ?_⟩
    by_cases hji : j = i
    · subst hji; exact hy.wpOp hi trivial ⟨fun _ => Upd.refl _ w, H⟩
    · have := ready_mono hj hji
      rw [H.1] at this
      cases this
  | succ fuel ih =>
    intro listed a w hfree hr hy H
    refine ⟨fun h => (by rw [h] at hr; cases hr), fun j hj => ?_⟩
    by_cases hji : j = i
    · subst hji; exact hy.wpOp hi trivial ⟨fun _ => Upd.refl _ w, H⟩
    · have h1 := H.2 j (ready_mono hj hji)
      obtain ⟨hjun, oj, hoj, hall⟩ := mem_ready.1 hj
      have hiun := (mem_ready.1 hr).1
      have hnot : ∀ e ∈ oj.after, Region.binds .any e = true → e.on ≠ i := fun e he hb heq => by
        have h1 := hall e he hb
        rw [heq] at h1
        rcases Nat.lt_or_ge i listed.size with h' | h'
        · simp [h'] at hiun h1; rw [hiun] at h1; cases h1
        · simp [Array.getElem?_eq_none h'] at h1
      have h2 := wpOp_putIf hoj (hfree j oj hoj hji hjun hnot) (fun cs b => hsel i oi cs b hi) (fun cs b => hsel j oj cs b hoj) (fun c a w => hQ c a oi.dst v w) hy h1
      have hfree' : ∀ k ok, ops[k]? = some ok → k ≠ i → (listed.setIfInBounds j true).getD k true = false →
          (∀ e ∈ ok.after, Region.binds .any e = true → e.on ≠ i) → oi.apart ops ok = true := fun k ok hk hki hun hno => by
        refine hfree k ok hk hki ?_ hno
        by_cases hjk : j = k
        · subst hjk; exact hjun
        · rw [getD_set_ne true hjk] at hun; exact hun
      refine wpOp_mono (fun a' w' h3 => ⟨h3.2.1, ih (listed.setIfInBounds j true) a' w' hfree' (ready_mono hr (Ne.symm hji)) h3.1 ?_⟩) h2
      rw [Array.setIfInBounds_comm _ _ hji]
      exact h3.2.2

/-- The operations' order, by their numbers, each with its class; at a place where two may come next, both ways. -/
inductive OT where
  | nil
  | one (i : Nat) (c : Cls) (r : OT)
  | two (i : Nat) (c : Cls) (r : OT) (j : Nat) (d : Cls) (s : OT)
  | three (i : Nat) (c : Cls) (r : OT) (j : Nat) (d : Cls) (s : OT) (k : Nat) (e : Cls) (t : OT)
def ofL : List (Nat × Cls) → OT → OT
  | [], t => t
  | (i, c) :: r, t => .one i c (ofL r t)
def wpOne (P : Program) (ops : List Oper) (Q : Exit → Act → World → Prop) (i : Nat) (c : Cls) (K : Act → World → Prop) (a : Act) (w : World) : Prop := ∃ o, ops[i]? = some o ∧
    (if Region.wanted o (yielded ops.toArray a.tmps) = true then
      (match c with
      | .W => ∃ v, (∀ w', (execOp a.eval o).run P w' = .ok (.value v) w') ∧ K (a.put o.dst v) w
      | .L => ∃ v, (∀ w', Ext w w' → (execOp a.eval o).run P w' = .ok (.value v) w') ∧ K (a.put o.dst v) w
      | .X => o.wp P a w (fun a' w' => Ext w w' ∧ K a' w') Q
      | .M => o.wp P a w (fun a' w' => K a' w') Q)
    else K (a.put o.dst undef) w)
def wpOrd (P : Program) (ops : List Oper) (Q : Exit → Act → World → Prop) : OT → Act → World → Prop
  | .nil, a, w => Q .normal a w
  | .one i c r, a, w => wpOne P ops Q i c (wpOrd P ops Q r) a w
  | .two i c r j d s, a, w => wpOne P ops Q i c (wpOrd P ops Q r) a w ∧ wpOne P ops Q j d (wpOrd P ops Q s) a w
  | .three i c r j d s k e t, a, w => wpOne P ops Q i c (wpOrd P ops Q r) a w ∧ wpOne P ops Q j d (wpOrd P ops Q s) a w ∧ wpOne P ops Q k e (wpOrd P ops Q t) a w
def clsOk (ds : List Nat) (i : Nat) : Cls → Bool
  | .X => !ds.contains i
  | .M => ds.contains i
  | .L => !ds.contains i
  | _ => false
/-- May the order stand for all? -/
def canon (ops : Array Oper) (ds : List Nat) (B : List Nat) : OT → Array Bool → Bool
  | .nil, l => match Region.ready .any ops l with
    | [] => true
    | _ => false
  | .one i c r, l => (match c with
      | .W => Region.free .any ops l i && (Region.ready .any ops l).contains i
      | .L => Region.free .any ops l i && (Region.ready .any ops l).contains i && ds.all (fun d => l.getD d true || (B.getD d 0).testBit i)
      | c => clsOk ds i c && (match Region.ready .any ops l with
        | [j] => Nat.beq i j
        | _ => false)) && canon ops ds B r (l.setIfInBounds i true)
  | .two i c r j d s, l => clsOk ds i c && clsOk ds j d && (match Region.ready .any ops l with
        | [i', j'] => Nat.beq i i' && Nat.beq j j'
        | _ => false) && canon ops ds B r (l.setIfInBounds i true) && canon ops ds B s (l.setIfInBounds j true)
  | .three i c r j d s k e t, l => clsOk ds i c && clsOk ds j d && clsOk ds k e && (match Region.ready .any ops l with
        | [i', j', k'] => Nat.beq i i' && Nat.beq j j' && Nat.beq k k'
        | _ => false) && canon ops ds B r (l.setIfInBounds i true) && canon ops ds B s (l.setIfInBounds j true) && canon ops ds B t (l.setIfInBounds k true)
def OT.len : OT → Nat
  | .nil => 0
  | .one _ _ r => r.len + 1
  | .two _ _ r _ _ s => max r.len s.len + 1
  | .three _ _ r _ _ s _ _ t => max (max r.len s.len) t.len + 1
def OT.ms : OT → List Nat
  | .nil => []
  | .one i c r => if c.isM then i :: r.ms else r.ms
  | .two i c r _ _ _ => if c.isM then i :: r.ms else r.ms
  | .three i c r _ _ _ _ _ _ => if c.isM then i :: r.ms else r.ms
theorem wpOp_one {ops : List Oper} {ds : List Nat} {i : Nat} {c : Cls} {K K' : Act → World → Prop} {a : Act} {w : World} (hc : clsOk ds i c = true) (h : wpOne P ops Q i c K a w) (hk : ∀ a w, K a w → K' a w) : wpOp P ops.toArray Q i (fun a' w' => (i ∉ ds → Ext w w') ∧ K' a' w') a w := by
  obtain ⟨o, ho, h⟩ := h
  have ho' : ops.toArray[i]? = some o := by simpa using ho
  unfold wpOp
  rw [ho']
  simp only
  split at h
  · rename_i hwt
    rw [if_pos hwt]
    cases c with
    | W => cases hc
    | L =>
      obtain ⟨v, hv, hh⟩ := h
      refine .inl ?_
      unfold Oper.wp
      rw [hv w (Upd.refl _ w)]
      exact ⟨fun _ => Upd.refl _ w, hk _ _ hh⟩
    | X => exact .inl (Oper.wp_mono (fun a' w' hh => ⟨fun _ => hh.1, hk _ _ hh.2⟩) h)
    | M => exact .inl (Oper.wp_mono (fun a' w' hh => ⟨fun hn => absurd (by simpa [clsOk] using hc) hn, hk _ _ hh⟩) h)
  · rename_i hwt
    rw [if_neg hwt]
    exact ⟨fun _ => Upd.refl _ w, hk _ _ h⟩
theorem wpX_ord {ops : List Oper} {ds B : List Nat} (hs : Region.noSelect ops.toArray = true) (hw : waitsOk ops B = true) (hQ : PS Q) : ∀ (ord : OT) (l : Array Bool) (a : Act) (w : World), LClosed ops.toArray l →
    canon ops.toArray ds B ord l = true → wpOrd P ops Q ord a w → ∀ n, ord.len ≤ n → wpX P ops.toArray Q ds n l a w
  | .nil, l, a, w, hc, hk, h, n, _ => by
    have hr : Region.ready .any ops.toArray l = [] := by
      unfold canon at hk
      split at hk
      · assumption
      · cases hk
    cases n with
    | zero => exact ⟨hr, h⟩
    | succ n => exact ⟨fun _ => h, by rw [hr]; simp⟩
  | .one i c r, l, a, w, hc, hk, h, n, hn => by
    obtain ⟨n, rfl⟩ : ∃ m, n = m + 1 := ⟨n - 1, by simp [OT.len] at hn; omega⟩
    simp only [OT.len] at hn
    unfold canon at hk
    rw [Bool.and_eq_true] at hk
    obtain ⟨hk1, hk2⟩ := hk
    have ih := fun hc' a' w' (hh : wpOrd P ops Q r a' w') => wpX_ord hs hw hQ r (l.setIfInBounds i true) a' w' hc' hk2 hh n (by omega)
    have eff : clsOk ds i c = true → Region.ready .any ops.toArray l = [i] → wpX P ops.toArray Q ds (n + 1) l a w := fun h1 hr =>
      ⟨fun h0 => (by rw [hr] at h0; cases h0), fun j hj => by
        rw [hr, List.mem_singleton] at hj
        subst hj
        exact wpOp_one h1 h (fun a' w' hh => ih (hc.set (by rw [hr]; simp)) a' w' hh)⟩
    cases c with
    | W =>
      simp only [Bool.and_eq_true] at hk1
      have hir : i ∈ Region.ready .any ops.toArray l := by simpa using hk1.2
      obtain ⟨o, ho, h⟩ := h
      have ho' : ops.toArray[i]? = some o := by simpa using ho
      split at h
      · rename_i hwt
        obtain ⟨v, hv, hh⟩ := h
        exact wpX_any ho' (Region.noSelect_spec hs) hQ n l a w (Region.free_spec ho' hk1.1) hir (.inl ⟨hwt, fun w' _ => hv w'⟩) (ih (hc.set hir) _ _ hh)
      · rename_i hwt
        exact wpX_any ho' (Region.noSelect_spec hs) hQ n l a w (Region.free_spec ho' hk1.1) hir (.inr ⟨by simpa using hwt, rfl⟩) (ih (hc.set hir) _ _ h)
    | L =>
      simp only [Bool.and_eq_true] at hk1
      have hir : i ∈ Region.ready .any ops.toArray l := by simpa using hk1.1.2
      have hds : ∀ d ∈ ds, l.getD d true = false → (B.getD d 0).testBit i = true := fun d hd hu => by
        have := List.all_eq_true.1 hk1.2 d hd
        rw [hu, Bool.false_or] at this
        exact this
      obtain ⟨o, ho, h⟩ := h
      have ho' : ops.toArray[i]? = some o := by simpa using ho
      split at h
      · rename_i hwt
        obtain ⟨v, hv, hh⟩ := h
        exact wpX_first (ops := ops.toArray) hw ho' (Region.noSelect_spec hs) hQ n l a w (Region.free_spec ho' hk1.1.1) hc hds hir (.inl ⟨hwt, hv⟩) (ih (hc.set hir) _ _ hh)
      · rename_i hwt
        exact wpX_any ho' (Region.noSelect_spec hs) hQ n l a w (Region.free_spec ho' hk1.1.1) hir (.inr ⟨by simpa using hwt, rfl⟩) (ih (hc.set hir) _ _ h)
    | X =>
      simp only [Bool.and_eq_true] at hk1
      refine eff hk1.1 ?_
      have h2 := hk1.2
      split at h2
      · rename_i j hj; rw [hj, Nat.eq_of_beq_eq_true h2]
      · cases h2
    | M =>
      simp only [Bool.and_eq_true] at hk1
      refine eff hk1.1 ?_
      have h2 := hk1.2
      split at h2
      · rename_i j hj; rw [hj, Nat.eq_of_beq_eq_true h2]
      · cases h2
  | .two i c r j d s, l, a, w, hc, hk, h, n, hn => by
    obtain ⟨n, rfl⟩ : ∃ m, n = m + 1 := ⟨n - 1, by simp [OT.len] at hn; omega⟩
    simp only [OT.len] at hn
    unfold canon at hk
    simp only [Bool.and_eq_true] at hk
    obtain ⟨⟨⟨⟨h1, h2⟩, h3⟩, h4⟩, h5⟩ := hk
    have hr : Region.ready .any ops.toArray l = [i, j] := by
      split at h3
      · rename_i i' j' hj
        rw [Bool.and_eq_true] at h3
        rw [hj, Nat.eq_of_beq_eq_true h3.1, Nat.eq_of_beq_eq_true h3.2]
      · cases h3
    refine ⟨fun h0 => (by rw [hr] at h0; cases h0), fun q hq => ?_⟩
    have hq' := hq
    rw [hr] at hq'
    simp only [List.mem_cons, List.not_mem_nil, or_false] at hq'
    rcases hq' with rfl | rfl
    · exact wpOp_one h1 h.1 (fun a' w' hh => wpX_ord hs hw hQ r _ a' w' (hc.set hq) h4 hh n (by omega))
    · exact wpOp_one h2 h.2 (fun a' w' hh => wpX_ord hs hw hQ s _ a' w' (hc.set hq) h5 hh n (by omega))
  | .three i c r j d s k e t, l, a, w, hc, hk, h, n, hn => by
    obtain ⟨n, rfl⟩ : ∃ m, n = m + 1 := ⟨n - 1, by simp [OT.len] at hn; omega⟩
    simp only [OT.len] at hn
    unfold canon at hk
    simp only [Bool.and_eq_true] at hk
    obtain ⟨⟨⟨⟨⟨⟨h1, h2⟩, h2'⟩, h3⟩, h4⟩, h5⟩, h6⟩ := hk
    have hr : Region.ready .any ops.toArray l = [i, j, k] := by
      split at h3
      · rename_i i' j' k' hj
        simp only [Bool.and_eq_true] at h3
        rw [hj, Nat.eq_of_beq_eq_true h3.1.1, Nat.eq_of_beq_eq_true h3.1.2, Nat.eq_of_beq_eq_true h3.2]
      · cases h3
    refine ⟨fun h0 => (by rw [hr] at h0; cases h0), fun q hq => ?_⟩
    have hq' := hq
    rw [hr] at hq'
    simp only [List.mem_cons, List.not_mem_nil, or_false] at hq'
    rcases hq' with rfl | rfl | rfl
    · exact wpOp_one h1 h.1 (fun a' w' hh => wpX_ord hs hw hQ r _ a' w' (hc.set hq) h4 hh n (by omega))
    · exact wpOp_one h2 h.2.1 (fun a' w' hh => wpX_ord hs hw hQ s _ a' w' (hc.set hq) h5 hh n (by omega))
    · exact wpOp_one h2' h.2.2 (fun a' w' hh => wpX_ord hs hw hQ t _ a' w' (hc.set hq) h6 hh n (by omega))
theorem LClosed.none (n : Nat) : LClosed ops (Array.replicate n false) := fun j oj hj hl => by
  rw [Array.getD_eq_getD_getElem?] at hl
  by_cases h : j < n
  · simp [h] at hl
  · simp [h] at hl
def canonB (ops : List Oper) (B : List Nat) (ord : OT) : Bool :=
  Region.noSelect ops.toArray && waitsOk ops B && canon ops.toArray ord.ms B ord (Array.replicate ops.length false) && Nat.ble ord.len ops.length
theorem wp_region_ord {id : Nat} {ops : List Oper} {a : Act} {w : World} (B : List Nat) (ord : OT) (hm : P.follows .mixedOrders = true) (hk : canonB ops B ord = true) (hQ : PS Q)
    (h : wpOrd P ops Q ord a w.drew) : (Code.region id ops.toArray true).wp P Q a w := by
  unfold canonB at hk
  simp only [Bool.and_eq_true] at hk
  obtain ⟨⟨⟨h1, h2⟩, h3⟩, h4⟩ := hk
  have h4 := Nat.le_of_ble_eq_true h4
  refine wp_region_any hm (wpAny_of_X (ds := ord.ms) _ _ _ _ ?_)
  exact wpX_ord h1 h2 hQ ord _ a _ (by simpa using LClosed.none (ops := ops.toArray) ops.length) (by simpa using h3) h _ (by simpa using h4)
/-- A region in the text's order. -/
def lexOrd (cs : List Cls) (k : Nat) : OT := match cs with
  | [] => .nil
  | c :: r => .one k c (lexOrd r (k + 1))
theorem wpList_ord {ops : List Oper} : ∀ (cs : List Cls) (l : List Oper) (k : Nat), (∀ j, l[j]? = ops[k + j]?) → cs.length = l.length → ∀ a w, wpOrd P ops Q (lexOrd cs k) a w → wpList P ops.toArray Q l a w
  | [], [], _, _, _, _, _, h => h
  | c :: r, [], _, _, h, _, _, _ => by simp at h
  | [], o :: l, _, _, h, _, _, _ => by simp at h
  | c :: r, o :: l, k, hl, hlen, a, w, h => by
    obtain ⟨o', ho', h⟩ := h
    have h0 : ops[k]? = some o := by simpa using (hl 0).symm
    have : o' = o := Option.some.inj (ho'.symm.trans h0)
    subst this
    have ih := wpList_ord r l (k + 1) (fun j => by have := hl (j + 1); simpa [Nat.add_assoc, Nat.add_comm 1 j] using this) (by simpa using hlen)
    unfold wpList
    split at h
    · rename_i hwt
      rw [if_pos hwt]
      refine .inl ?_
      cases c with
      | W =>
        obtain ⟨v, hv, hh⟩ := h
        unfold Oper.wp
        rw [hv w]
        exact ih _ _ hh
      | L =>
        obtain ⟨v, hv, hh⟩ := h
        unfold Oper.wp
        rw [hv w (Upd.refl _ w)]
        exact ih _ _ hh
      | X => exact Oper.wp_mono (fun a' w' hh => ih _ _ hh.2) h
      | M => exact Oper.wp_mono (fun a' w' hh => ih _ _ hh) h
    · rename_i hwt
      rw [if_neg hwt]
      exact ih _ _ h
theorem wp_region_lex {id : Nat} {ops : List Oper} {a : Act} {w : World} (cs : List Cls) (hlen : Nat.beq cs.length ops.length = true) (h : wpOrd P ops Q (lexOrd cs 0) a w) : (Code.region id ops.toArray false).wp P Q a w :=
  wp_region_lit (wpList_ord cs ops 0 (by simp) (Nat.eq_of_beq_eq_true hlen) a w h)
end
end Go.H
