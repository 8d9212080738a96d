/- Walking by explicit rules, part C: the rules. Plain theorems over any program. -/
import Derived.Test.YtnaajldlloglkaaDoorHB
set_option linter.unusedVariables false
set_option linter.unusedSimpArgs false
namespace Go.H
open Go.RowKit

/-! ### 6. Cells -/
def cellH (h : Heap) (a : Addr) : Option Value :=
  match h[a.block]? with
  | some (.cells c _ _) => if a.spot.isSome then none else c[a.off]?
  | _ => none
theorem cell_H (w : World) (a : Addr) : w.cell? a = cellH w.heap a := rfl
theorem cellH_of_get {h h' : Heap} {a : Addr} (e : h'[a.block]? = h[a.block]?) : cellH h' a = cellH h a := by unfold cellH; rw [e]
theorem cellH_lt {h : Heap} {a : Addr} {v : Value} (e : cellH h a = some v) : a.block < h.size := by
  unfold cellH at e
  rcases Nat.lt_or_ge a.block h.size with hh | hh
  · exact hh
  · rw [Array.getElem?_eq_none hh] at e; cases e
theorem add_block (a : Addr) (n : Nat) : (a.add n).block = a.block := by unfold Addr.add; split <;> rfl
theorem add_zero (a : Addr) : a.add 0 = a := rfl
theorem add_add (a : Addr) (m n : Nat) : (a.add m).add n = a.add (m + n) := by
  unfold Addr.add
  by_cases h1 : m = 0
  · subst h1; simp
  · by_cases h2 : n = 0
    · subst h2; simp
    · rw [if_neg h1, if_neg h2, if_neg (by omega)]
      simp [Nat.add_assoc]
/-- From there on the cells hold these values. -/
def At (h : Heap) (p : Addr) (cs : List Value) : Prop := ∀ j u, cs[j]? = some u → cellH h (p.add j) = some u
theorem At.keep {h h' : Heap} {p : Addr} {cs : List Value} (k : At h p cs) (e : h'[p.block]? = h[p.block]?) : At h' p cs := fun j u hu => by
  have e' : h'[(p.add j).block]? = h[(p.add j).block]? := by rw [add_block]; exact e
  exact (cellH_of_get e').trans (k j u hu)
theorem At.lt {h : Heap} {p : Addr} {v : Value} {cs : List Value} (k : At h p (v :: cs)) : p.block < h.size := by
  have := cellH_lt (k 0 v rfl)
  rwa [add_block] at this
theorem At.ext {w w' : World} {p : Addr} {cs : List Value} (k : At w.heap p cs) (hx : Ext w w') : At w'.heap p cs := by
  cases cs with
  | nil => intro j u hu; simp at hu
  | cons v r => exact k.keep (hx.get k.lt)
theorem At.fld {h : Heap} {p : Addr} {cs : List Value} (k : At h p cs) (n : Nat) : At h (addA p n) (cs.drop n) := fun j u hu => by
  rw [addA_eq, add_add]
  exact k (n + j) u (by rw [← List.getElem?_drop]; exact hu)
theorem At.take {h : Heap} {p : Addr} {cs us : List Value} (k : At h p cs) (n : Nat) (e : cs.take n = us) : At h p us := fun j u hu => by
  subst e
  rw [List.getElem?_take] at hu
  split at hu
  · exact k j u hu
  · cases hu
/-- A block of the call's own, its cells told. -/
def Box (h : Heap) (b : Nat) (T : TypeId) (cs : List Value) : Prop := h[b]? = some (.cells cs.toArray T (0, 0))
theorem Box.at {h : Heap} {b : Nat} {T : TypeId} {cs : List Value} (k : Box h b T cs) (o : Nat) : At h ⟨b, o, none⟩ (cs.drop o) := fun j u hu => by
  rw [List.getElem?_drop] at hu
  unfold cellH
  rw [add_block]
  simp only
  rw [show h[b]? = _ from k]
  have e : ((⟨b, o, none⟩ : Addr).add j) = ⟨b, o + j, none⟩ := by unfold Addr.add; split <;> simp_all
  rw [e]
  simpa using hu
theorem Box.lt {h : Heap} {b : Nat} {T : TypeId} {cs : List Value} (k : Box h b T cs) : b < h.size := (Array.getElem?_eq_some_iff.1 k).1
theorem Box.ext {w w' : World} {b : Nat} {T : TypeId} {cs : List Value} (k : Box w.heap b T cs) (hx : Ext w w') : Box w'.heap b T cs := (hx.get k.lt).trans k
theorem Box.ty {h : Heap} {b : Nat} {T : TypeId} {cs : List Value} (k : Box h b T cs) : ty h b = some T := by unfold Go.H.ty; rw [show h[b]? = _ from k]
theorem Box.upd {w w' : World} {S : Fp} {b : Nat} {T : TypeId} {cs : List Value} (k : Box w.heap b T cs) (hx : Upd S w w') (hs : ¬ S b (some T)) : Box w'.heap b T cs := (hx.keep b k.lt (by rw [k.ty]; exact hs)).trans k

/-! ### 7. What is to be shown of a code, of an exit, of a region's rest -/
section
variable {P : Program} {N : Nat} {Q : Exit → Act → World → Prop} {E : Env} {w : World} {ops : List Oper} {tab : Tab}
def CW (P : Program) (N : Nat) (c : Code) (Q : Exit → Act → World → Prop) (E : Env) (w : World) : Prop := PS Q → ∀ a, Sat N E a → c.wp P Q a w
def NW (N : Nat) (e : Exit) (Q : Exit → Act → World → Prop) (E : Env) (w : World) : Prop := PS Q → ∀ a, Sat N E a → Q e a w
def RW (P : Program) (N : Nat) (ops : List Oper) (Q : Exit → Act → World → Prop) (ord : OT) (E : Env) (w : World) : Prop := PS Q → ∀ a, Sat N E a → wpOrd P ops Q ord a w

theorem CW.sub {c : Code} (E' : Env) (hs : Sub E' E) (h : CW P N c Q E' w) : CW P N c Q E w := fun hp a ha => h hp a (ha.sub hs)
theorem NW.sub {e : Exit} (E' : Env) (hs : Sub E' E) (h : NW N e Q E' w) : NW N e Q E w := fun hp a ha => h hp a (ha.sub hs)
theorem RW.sub {ord : OT} (E' : Env) (hs : Sub E' E) (h : RW P N ops Q ord E' w) : RW P N ops Q ord E w := fun hp a ha => h hp a (ha.sub hs)
theorem CW.go {c : Code} {a : Act} (hp : PS Q) (ha : Sat N E a) (h : CW P N c Q E w) : c.wp P Q a w := h hp a ha

theorem CW.seq {x y : Code} (h : CW P N x (Exit.then (Code.wp P y Q) Q) E w) : CW P N (.seq x y) Q E w := fun hp a ha => wp_seq (h hp.then a ha)
theorem CW.seqJ {x y : Code} (J : Act → World → Prop) (hx : CW P N x (Exit.then J Q) E w) (hJ : ∀ a w, J a w → PS Q → y.wp P Q a w) : CW P N (.seq x y) Q E w :=
  fun hp a ha => wp_seq_k fun K hK => wp_mono (hx hp.then a ha) (fun e a w h => by cases e <;> first | exact hK _ _ (hJ _ _ h hp) | exact h)
theorem NW.next {y : Code} (h : CW P N y Q E w) : NW N .normal (Exit.then (Code.wp P y Q) Q) E w := fun hp a ha => h (fun c a d v w hh => hp c a d v w hh) a ha
theorem NW.J {J : Act → World → Prop} (h : ∀ a, Sat N E a → J a w) : NW N .normal (Exit.then J Q) E w := fun _ a ha => h a ha
theorem NW.ret_then {J : Act → World → Prop} (h : NW N .ret Q E w) : NW N .ret (Exit.then J Q) E w := fun hp a ha => h (fun c a d v w hh => hp c a d v w hh) a ha
theorem NW.exit_then {J : Act → World → Prop} {i : Nat} (h : NW N (.exit i) Q E w) : NW N (.exit i) (Exit.then J Q) E w := fun hp a ha => h (fun c a d v w hh => hp c a d v w hh) a ha
theorem NW.ret_block {i : Nat} (h : NW N .ret Q E w) : NW N .ret (Exit.inBlock i Q) E w := fun hp a ha => h (fun c a d v w hh => hp c a d v w hh) a ha
theorem NW.norm_block {i : Nat} (h : NW N .normal Q E w) : NW N .normal (Exit.inBlock i Q) E w := fun hp a ha => h (fun c a d v w hh => hp c a d v w hh) a ha
theorem NW.exit_hit {i : Nat} (h : NW N .normal Q E w) : NW N (.exit i) (Exit.inBlock i Q) E w := fun hp a ha => by
  show (if i = i then Q .normal a w else Q (.exit i) a w)
  rw [if_pos rfl]
  exact h (fun c a d v w hh => hp c a d v w hh) a ha
theorem NW.exit_miss {i j : Nat} (hne : Nat.beq i j = false) (h : NW N (.exit i) Q E w) : NW N (.exit i) (Exit.inBlock j Q) E w := fun hp a ha => by
  show (if i = j then Q .normal a w else Q (.exit i) a w)
  rw [if_neg (Nat.ne_of_beq_eq_false hne)]
  exact h (fun c a d v w hh => hp c a d v w hh) a ha
theorem CW.block {i : Nat} {c : Code} (h : CW P N c (Exit.inBlock i Q) E w) : CW P N (.block i c) Q E w := fun hp a ha => wp_block (h hp.block a ha)
theorem CW.skip (h : NW N .normal Q E w) : CW P N .skip Q E w := fun hp a ha => wp_skip (h hp a ha)
theorem CW.exit {i : Nat} (h : NW N (.exit i) Q E w) : CW P N (.exit i) Q E w := fun hp a ha => wp_exit (h hp a ha)
theorem CW.ret (h : NW N .ret Q E w) : CW P N .ret Q E w := fun hp a ha => wp_ret (h hp a ha)
theorem CW.cond_t {c : Operand} {x y : Code} {b : Bool} (hc : ev E c = some (.bool b)) (hb : b = true) (h : CW P N x Q E w) : CW P N (.cond c x y) Q E w := fun hp a ha => by
  subst hb
  exact wp_cond_true (ev_eval ha hc) (h hp a ha)
theorem CW.cond_f {c : Operand} {x y : Code} {b : Bool} (hc : ev E c = some (.bool b)) (hb : b = false) (h : CW P N y Q E w) : CW P N (.cond c x y) Q E w := fun hp a ha => by
  subst hb
  exact wp_cond_false (ev_eval ha hc) (h hp a ha)
/-- A loop, by what holds at a round's head, a number of rounds being told. -/
theorem CW.loop {c : Code} (I : Nat → Act → World → Prop) (n : Nat) (h0 : ∀ a, Sat N E a → I n a w)
    (hr : ∀ n a w, I n a w → PS Q → c.wp P (Exit.then (fun a' w' => ∃ m, m < n ∧ I m a' w') Q) a w) : CW P N (.loop c) Q E w := fun hp a ha => wp_loop_ghost I n (h0 a ha) fun n a w h => hr n a w h hp
theorem CW.lex {id : Nat} (cs : List Cls) (hlen : Nat.beq cs.length ops.length = true) (h : RW P N ops Q (lexOrd cs 0) E w) : CW P N (.region id ops.toArray false) Q E w := fun hp a ha => wp_region_lex cs hlen (h hp a ha)
theorem CW.ord {id : Nat} (B : List Nat) (ord : OT) (hm : P.follows .mixedOrders = true) (hk : canonB ops B ord = true) (h : ∀ w1, Ext w w1 → RW P N ops Q ord E w1) : CW P N (.region id ops.toArray true) Q E w :=
  fun hp a ha => wp_region_ord B ord hm hk hp (h _ (Ext.drew w) hp a ha)
theorem RW.done (h : NW N .normal Q E w) : RW P N ops Q .nil E w := fun hp a ha => h hp a ha
/-- Two that may come next: both ways. -/
theorem RW.two {i j : Nat} {c d : Cls} {r s : OT} (h1 : RW P N ops Q (.one i c r) E w) (h2 : RW P N ops Q (.one j d s) E w) : RW P N ops Q (.two i c r j d s) E w := fun hp a ha => ⟨h1 hp a ha, h2 hp a ha⟩
theorem RW.three {i j k : Nat} {c d e : Cls} {r s t : OT} (h1 : RW P N ops Q (.one i c r) E w) (h2 : RW P N ops Q (.one j d s) E w) (h3 : RW P N ops Q (.one k e t) E w) : RW P N ops Q (.three i c r j d s k e t) E w := fun hp a ha => ⟨h1 hp a ha, h2 hp a ha, h3 hp a ha⟩
/-- A slot's bool, told anew. -/
theorem RW.bool {ord : OT} (t : Nat) {b b' : Bool} (hb : b = b') (ht : E.get t = some (.bool b)) (h : RW P N ops Q ord ((t, .bool b') :: E) w) : RW P N ops Q ord E w := fun hp a ha => by
  subst hb
  refine h hp a ⟨ha.defers, ha.size, fun t' v hv => ?_⟩
  rw [Env.get_cons] at hv
  split at hv
  · rename_i e; subst e; cases hv; exact ha.get _ _ ht
  · exact ha.get _ _ hv

/-! ### 8. A guard -/
def wantE (ops : List Oper) (E : Env) (o : Oper) : Option Bool :=
  match o.guard with
  | none => some true
  | some (g, b) => match (ops[g]?).bind (·.dst) with
    | none => some false
    | some t => match E.get t with
      | some (.bool c) => some (c == b)
      | some (.tuple _) => some false
      | _ => none
theorem wantE_sound {o : Oper} {b : Bool} (h : wantE ops E o = some b) {a : Act} (ha : Sat N E a) : Region.wanted o (yielded ops.toArray a.tmps) = b := by
  unfold wantE at h
  unfold Region.wanted
  cases hg : o.guard with
  | none => rw [hg] at h; simpa using h
  | some gb =>
    obtain ⟨g, c⟩ := gb
    rw [hg] at h
    simp only at h ⊢
    unfold yielded
    simp only [List.getElem?_toArray]
    cases ht : (ops[g]?).bind (·.dst) with
    | none => rw [ht] at h; simp at h; simp [← h]
    | some t =>
      rw [ht] at h
      simp only at h
      cases hv : E.get t with
      | none => rw [hv] at h; cases h
      | some v =>
        rw [hv] at h
        simp only [Option.bind_some, ha.get t v hv]
        cases v <;> simp only at h <;> first | (cases h; done) | (cases h; simp)
def runW (tab : Tab) (N : Nat) (ops : List Oper) : Nat → Env → OT → Option (Env × OT)
  | 0, E, ord => some (E, ord)
  | _ + 1, _, .nil => none
  | _ + 1, _, .two .. => none
  | _ + 1, _, .three .. => none
  | n + 1, E, .one i c r => match ops[i]? with
    | none => none
    | some o => match o.dst with
      | none => match wantE ops E o with
        | some false => runW tab N ops n E r
        | _ => none
      | some d => match Nat.blt d N, wantE ops E o with
        | true, some false => runW tab N ops n ((d, undef) :: E) r
        | true, some true => match c with
          | .W => match pureOp tab E o.op with
            | some v => runW tab N ops n ((d, v) :: E) r
            | none => none
          | _ => none
        | _, _ => none
theorem RW.pure (hT : TabOk P tab) : ∀ (n : Nat) {E : Env} {ord : OT} {E' : Env} {ord' : OT}, runW tab N ops n E ord = some (E', ord') → RW P N ops Q ord' E' w → RW P N ops Q ord E w
  | 0, E, ord, E', ord', hr, h => by
    simp only [runW, Option.some.injEq, Prod.mk.injEq] at hr
    obtain ⟨rfl, rfl⟩ := hr
    exact h
  | n + 1, E, .nil, E', ord', hr, h => by simp [runW] at hr
  | n + 1, E, .two .., E', ord', hr, h => by simp [runW] at hr
  | n + 1, E, .three .., E', ord', hr, h => by simp [runW] at hr
  | n + 1, E, .one i c r, E', ord', hr, h => fun hp a ha => by
    unfold runW at hr
    cases ho : ops[i]? with
    | none => rw [ho] at hr; cases hr
    | some o =>
      rw [ho] at hr
      simp only at hr
      refine ⟨o, ho, ?_⟩
      cases hd : o.dst with
      | none =>
        rw [hd] at hr
        cases hw : wantE ops E o with
        | none => rw [hw] at hr; cases hr
        | some b =>
          rw [hw] at hr
          rw [wantE_sound hw ha]
          cases b with
          | true => cases hr
          | false =>
            simp only at hr
            have := RW.pure hT n hr h hp _ (ha.put (d := none) rfl undef)
            simpa using this
      | some d =>
        rw [hd] at hr
        simp only at hr
        cases hf : Nat.blt d N with
        | false => rw [hf] at hr; cases hr
        | true =>
          rw [hf] at hr
          cases hw : wantE ops E o with
          | none => rw [hw] at hr; cases hr
          | some b =>
            rw [hw] at hr
            have hwt := wantE_sound hw ha
            rw [hwt]
            cases b with
            | false =>
              simp only at hr
              simpa using RW.pure hT n hr h hp _ (ha.put (d := some d) hf undef)
            | true =>
              simp only at hr
              cases c <;> simp only at hr <;> try (cases hr; done)
              cases hv : pureOp tab E o.op with
              | none => rw [hv] at hr; cases hr
              | some v =>
                rw [hv] at hr
                exact ⟨v, fun w' => pureOp_sound hT ha.knows hv w', RW.pure hT n hr h hp _ (ha.put (d := some d) hf v)⟩

/-! ### 9. One operation -/
/-- The operation that comes next. -/
structure Nx (ops : List Oper) (N : Nat) (E : Env) (i : Nat) (o : Oper) (d : Nat) : Prop where
  op : ops[i]? = some o
  dst : o.dst = some d
  fit : Nat.blt d N = true
  want : wantE ops E o = some true
structure Nx0 (ops : List Oper) (E : Env) (i : Nat) (o : Oper) : Prop where
  op : ops[i]? = some o
  dst : o.dst = none
  want : wantE ops E o = some true
theorem RW.stepW {i d : Nat} {o : Oper} {r : OT} {v : Value} (hn : Nx ops N E i o d) (hrun : ∀ ρ, Knows E ρ → ∀ w', (execOp ρ o).run P w' = .ok (.value v) w') (h : RW P N ops Q r ((d, v) :: E) w) : RW P N ops Q (.one i .W r) E w := fun hp a ha => by
  refine ⟨o, hn.op, ?_⟩
  rw [wantE_sound hn.want ha]
  rw [hn.dst]
  exact ⟨v, hrun _ ha.knows, h hp _ (ha.put (d := some d) hn.fit v)⟩
theorem RW.stepL {i d : Nat} {o : Oper} {r : OT} {v : Value} (hn : Nx ops N E i o d) (hrun : ∀ ρ, Knows E ρ → ∀ w', Ext w w' → (execOp ρ o).run P w' = .ok (.value v) w') (h : RW P N ops Q r ((d, v) :: E) w) : RW P N ops Q (.one i .L r) E w := fun hp a ha => by
  refine ⟨o, hn.op, ?_⟩
  rw [wantE_sound hn.want ha]
  rw [hn.dst]
  exact ⟨v, hrun _ ha.knows, h hp _ (ha.put (d := some d) hn.fit v)⟩
/-- One that makes memory: X or M. -/
theorem RW.stepX {i d : Nat} {o : Oper} {r : OT} {v : Value} {w1 : World} {c : Cls} (hc : c = .X ∨ c = .M) (hn : Nx ops N E i o d) (hrun : ∀ ρ, Knows E ρ → (execOp ρ o).run P w = .ok (.value v) w1) (hx : Ext w w1) (h : RW P N ops Q r ((d, v) :: E) w1) : RW P N ops Q (.one i c r) E w := fun hp a ha => by
  refine ⟨o, hn.op, ?_⟩
  rw [wantE_sound hn.want ha]
  rcases hc with rfl | rfl
  · simp only [if_true]
    unfold Oper.wp
    rw [hrun _ ha.knows]
    show Ext w w1 ∧ wpOrd P ops Q r (a.put o.dst v) w1
    rw [hn.dst]
    exact ⟨hx, h hp _ (ha.put (d := some d) hn.fit v)⟩
  · simp only [if_true]
    unfold Oper.wp
    rw [hrun _ ha.knows]
    show wpOrd P ops Q r (a.put o.dst v) w1
    rw [hn.dst]
    exact h hp _ (ha.put (d := some d) hn.fit v)
theorem RW.stepM {i d : Nat} {o : Oper} {r : OT} {v : Value} {w1 : World} (hn : Nx ops N E i o d) (hrun : ∀ ρ, Knows E ρ → (execOp ρ o).run P w = .ok (.value v) w1) (h : RW P N ops Q r ((d, v) :: E) w1) : RW P N ops Q (.one i .M r) E w := fun hp a ha => by
  refine ⟨o, hn.op, ?_⟩
  rw [wantE_sound hn.want ha]
  simp only [if_true]
  unfold Oper.wp
  rw [hrun _ ha.knows]
  show wpOrd P ops Q r (a.put o.dst v) w1
  rw [hn.dst]
  exact h hp _ (ha.put (d := some d) hn.fit v)
theorem RW.stepS {i : Nat} {o : Oper} {r : OT} {w1 : World} (hn : Nx0 ops E i o) (hrun : ∀ ρ, Knows E ρ → (execOp ρ o).run P w = .ok .skip w1) (h : RW P N ops Q r E w1) : RW P N ops Q (.one i .M r) E w := fun hp a ha => by
  refine ⟨o, hn.op, ?_⟩
  rw [wantE_sound hn.want ha]
  simp only [if_true]
  unfold Oper.wp
  rw [hrun _ ha.knows]
  have : a.put o.dst undef = a := by rw [hn.dst]; rfl
  show wpOrd P ops Q r (a.put o.dst undef) w1
  rw [this]
  exact h hp _ ha
def Enters (P : Program) (f : FuncId) : Prop := ∀ args w, (callFunc f args).run P w = .ok (.enter f args) w
theorem Enters.mk {f : FuncId} {fn : Func} (hf : P.funcs[f]? = some fn) (hname : (fn.name == "runtime.NumGoroutine") = false) (hb : fn.body.isSome = true) : Enters P f := fun args w => by
  have h1 : fn.name ≠ "runtime.NumGoroutine" := by simpa using hname
  obtain ⟨c, hc⟩ := Option.isSome_iff_exists.1 hb
  simp [callFunc, hf, h1, hc]
theorem run_call {o : Oper} {cal : Operand} {as : Array Operand} {ts : Array TypeId} {f : FuncId} {first cap : Array Value} {args : List Value} {ρ : Operand → Value} (he : Enters P f) (hρ : Knows E ρ) (hop : o.op = .call ⟨.value cal, as, ts⟩) (hc : ev E cal = some (.func (.func f) first cap)) (ha : evs E as.toList = some args) (w : World) :
    (execOp ρ o).run P w = .ok (.enter f (first ++ args.toArray ++ cap)) w := by
  have e1 : as.map ρ = args.toArray := by rw [← hρ.map ha, ← List.map_toArray, Array.toArray_toList]
  unfold execOp
  simp only [hop, resolve, e1, hρ cal _ hc, Deferred.ofValue, Sem.run_bind, Sem.run_pure, Result.andThen_ok, invoke]
  exact he _ w
/-- A call that leaves all that was (X), or is M. -/
theorem RW.call {i d : Nat} {o : Oper} {r : OT} {c : Cls} {cal : Operand} {as : Array Operand} {ts : Array TypeId} {f : FuncId} {first cap : Array Value} {args : List Value} {R : Ending → World → Prop} (hc : c = .X ∨ c = .M) (he : Enters P f) (hn : Nx ops N E i o d) (hop : o.op = .call ⟨.value cal, as, ts⟩)
    (hcal : ev E cal = some (.func (.func f) first cap)) (ha : evs E as.toList = some args) (hR : Calls P f (first ++ args.toArray ++ cap) w R)
    (h : ∀ e w', R e w' → ∃ v, e = .returned v ∧ Ext w w' ∧ RW P N ops Q r ((d, v) :: E) w') : RW P N ops Q (.one i c r) E w := fun hp a hsat => by
  refine ⟨o, hn.op, ?_⟩
  rw [wantE_sound hn.want hsat]
  have hrun := run_call he hsat.knows hop hcal ha w
  rcases hc with rfl | rfl
  · simp only [if_true]
    unfold Oper.wp
    rw [hrun, Oper.upon_enter]
    refine hR.mono fun e w' hh => ?_
    obtain ⟨v, rfl, hx, hk⟩ := h e w' hh
    show Ext w w' ∧ wpOrd P ops Q r (a.put o.dst v) w'
    rw [hn.dst]
    exact ⟨hx, hk hp _ (hsat.put (d := some d) hn.fit v)⟩
  · simp only [if_true]
    unfold Oper.wp
    rw [hrun, Oper.upon_enter]
    refine hR.mono fun e w' hh => ?_
    obtain ⟨v, rfl, hx, hk⟩ := h e w' hh
    show wpOrd P ops Q r (a.put o.dst v) w'
    rw [hn.dst]
    exact hk hp _ (hsat.put (d := some d) hn.fit v)
theorem RW.callM {i d : Nat} {o : Oper} {r : OT} {cal : Operand} {as : Array Operand} {ts : Array TypeId} {f : FuncId} {first cap : Array Value} {args : List Value} {R : Ending → World → Prop} (he : Enters P f) (hn : Nx ops N E i o d) (hop : o.op = .call ⟨.value cal, as, ts⟩)
    (hcal : ev E cal = some (.func (.func f) first cap)) (ha : evs E as.toList = some args) (hR : Calls P f (first ++ args.toArray ++ cap) w R)
    (h : ∀ e w', R e w' → ∃ v, e = .returned v ∧ RW P N ops Q r ((d, v) :: E) w') : RW P N ops Q (.one i .M r) E w := fun hp a hsat => by
  refine ⟨o, hn.op, ?_⟩
  rw [wantE_sound hn.want hsat]
  have hrun := run_call he hsat.knows hop hcal ha w
  simp only [if_true]
  unfold Oper.wp
  rw [hrun, Oper.upon_enter]
  refine hR.mono fun e w' hh => ?_
  obtain ⟨v, rfl, hk⟩ := h e w' hh
  show wpOrd P ops Q r (a.put o.dst v) w'
  rw [hn.dst]
  exact hk hp _ (hsat.put (d := some d) hn.fit v)
theorem RW.callM0 {i : Nat} {o : Oper} {r : OT} {cal : Operand} {as : Array Operand} {ts : Array TypeId} {f : FuncId} {first cap : Array Value} {args : List Value} {R : Ending → World → Prop} (he : Enters P f) (hn : Nx0 ops E i o) (hop : o.op = .call ⟨.value cal, as, ts⟩)
    (hcal : ev E cal = some (.func (.func f) first cap)) (ha : evs E as.toList = some args) (hR : Calls P f (first ++ args.toArray ++ cap) w R)
    (h : ∀ e w', R e w' → ∃ v, e = .returned v ∧ RW P N ops Q r E w') : RW P N ops Q (.one i .M r) E w := fun hp a hsat => by
  refine ⟨o, hn.op, ?_⟩
  rw [wantE_sound hn.want hsat]
  have hrun := run_call he hsat.knows hop hcal ha w
  simp only [if_true]
  unfold Oper.wp
  rw [hrun, Oper.upon_enter]
  refine hR.mono fun e w' hh => ?_
  obtain ⟨v, rfl, hk⟩ := h e w' hh
  show wpOrd P ops Q r (a.put o.dst v) w'
  rw [hn.dst]
  exact hk hp _ hsat
/-- A slot's value told in other words. -/
theorem RW.tell {ord : OT} (t : Nat) {v v' : Value} (hb : v = v') (ht : E.get t = some v) (h : RW P N ops Q ord ((t, v') :: E) w) : RW P N ops Q ord E w := fun hp a ha => by
  subst hb
  refine h hp a ⟨ha.defers, ha.size, fun t' u hu => ?_⟩
  rw [Env.get_cons] at hu
  split at hu
  · rename_i e; subst e; cases hu; exact ha.get _ _ ht
  · exact ha.get _ _ hu
/-- A shift by a number that is not below 0. -/
theorem RW.shift {i d : Nat} {o : Oper} {r : OT} {op : BinOp} {T T2 : TypeId} {x y : Operand} {k yk : IntKind} {a b : Int} {v : Int} (h0 : 0 ≤ b) (hn : Nx ops N E i o d) (hop : o.op = .binOp op T x y T2) (hx : ev E x = some (.int k a)) (hy : ev E y = some (.int yk b)) (hv : (match op with | .shl => some (k.wrap (a * 2 ^ min b.toNat k.bits)) | .shr => some (a.fdiv (2 ^ min b.toNat k.bits)) | _ => none) = some v)
    (h : RW P N ops Q r ((d, .int k v) :: E) w) : RW P N ops Q (.one i .W r) E w :=
  RW.stepW hn (fun ρ hρ w' => by
    have hb : ¬ b < 0 := by omega
    unfold execOp
    cases op <;> simp only at hv <;> try (cases hv; done)
    · cases hv
      simp [hop, hρ x _ hx, hρ y _ hy, eqGuard, binOp, Op.shift, hb]
    · cases hv
      simp [hop, hρ x _ hx, hρ y _ hy, eqGuard, binOp, Op.shift, hb]) h
/-- A quotient, a rest: by what isn't 0. -/
theorem RW.div {i d : Nat} {o : Oper} {r : OT} {op : BinOp} {T T2 : TypeId} {x y : Operand} {k : IntKind} {a b : Int} {v : Int} (h0 : ¬ b = 0) (hn : Nx ops N E i o d) (hop : o.op = .binOp op T x y T2) (hx : ev E x = some (.int k a)) (hy : ev E y = some (.int k b)) (hv : (match op with | .quo => some (k.wrap (a.tdiv b)) | .rem => some (a.tmod b) | _ => none) = some v)
    (h : RW P N ops Q r ((d, .int k v) :: E) w) : RW P N ops Q (.one i .W r) E w :=
  RW.stepW hn (fun ρ hρ w' => by
    unfold execOp
    cases op <;> simp only at hv <;> try (cases hv; done)
    · cases hv
      simp [hop, hρ x _ hx, hρ y _ hy, eqGuard, binOp, Op.intDiv, h0]
    · cases hv
      simp [hop, hρ x _ hx, hρ y _ hy, eqGuard, binOp, Op.intDiv, h0]) h
end
end Go.H
