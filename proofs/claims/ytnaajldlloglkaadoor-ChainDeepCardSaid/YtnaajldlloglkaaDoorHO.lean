/- Walking by explicit rules, part O: maps from whole numbers, told by lists of pairs. Plain theorems over any program. -/
import Derived.Test.YtnaajldlloglkaaDoorHN
import Derived.MapKept
set_option linter.unusedVariables false
set_option linter.unusedSimpArgs false
namespace Go.H
open Go.RowKit Go.MapKept
section
variable {β : Type}
def mget : List (Int × β) → Int → Option β
  | [], _ => none
  | (a, v) :: r, k => if a = k then some v else mget r k
def mset : List (Int × β) → Int → β → List (Int × β)
  | [], k, v => [(k, v)]
  | (a, x) :: r, k, v => if a = k then (a, v) :: r else (a, x) :: mset r k v
def MapB (h : Heap) (b : Nat) (enc : β → Value) (m : List (Int × β)) : Prop := ∃ es clock, h[b]? = some (.map es clock) ∧ es.toList.map (fun e => (e.key, e.val)) = m.map fun p => (.int .i64 p.1, enc p.2)
variable {enc : β → Value} {m : List (Int × β)} {b : Nat} {h : Heap}
theorem MapB.lt (k : MapB h b enc m) : b < h.size := by
  obtain ⟨es, c, hb, _⟩ := k
  exact (Array.getElem?_eq_some_iff.1 hb).1
theorem MapB.ty (k : MapB h b enc m) : ty h b = none := by
  obtain ⟨es, c, hb, _⟩ := k
  unfold Go.H.ty
  rw [hb]
theorem MapB.keep {h' : Heap} (k : MapB h b enc m) (e : h'[b]? = h[b]?) : MapB h' b enc m := by
  obtain ⟨es, c, hb, hm⟩ := k
  exact ⟨es, c, e.trans hb, hm⟩
theorem MapB.ext {w w' : World} (k : MapB w.heap b enc m) (hx : Ext w w') : MapB w'.heap b enc m := k.keep (hx.get k.lt)
theorem MapB.turnL {w w' : World} {T : TypeId} {l : List Seg3} (k : MapB w.heap b enc m) (hx : Upd (rowS (okL l) T) w w') : MapB w'.heap b enc m := k.keep (hx.keep b k.lt fun hs => by rw [k.ty] at hs; cases hs.2)
theorem MapB.turnB {w w' : World} {n : Nat} (k : MapB w.heap b enc m) (hx : Upd (fun j _ => j = n) w w') (hne : b ≠ n) : MapB w'.heap b enc m := k.keep (hx.keep b k.lt hne)
theorem find_map (k : Int) (v : β) : ∀ (l : List MapEntry) (m : List (Int × β)) (i : Nat), l.map (fun e => (e.key, e.val)) = m.map (fun p => (.int .i64 p.1, enc p.2)) →
    (mget m k = none ∧ Instr.findNow (.int .i64) (.int .i64 k) l i = some none ∧ mset m k v = m ++ [(k, v)]) ∨
    ∃ j x e, mget m k = some x ∧ Instr.findNow (.int .i64) (.int .i64 k) l i = some (some (i + j, enc x)) ∧ l[j]? = some e ∧ e.key = .int .i64 k ∧ mset m k v = m.set j (k, v)
  | [], [], i, _ => .inl ⟨rfl, rfl, rfl⟩
  | [], p :: m, i, hh => by simp at hh
  | e :: l, [], i, hh => by simp at hh
  | e :: l, (a, x) :: m, i, hh => by
    simp only [List.map_cons, List.cons.injEq, Prod.mk.injEq] at hh
    obtain ⟨⟨h1, h2⟩, h3⟩ := hh
    unfold mget mset Instr.findNow
    rw [h1]
    simp only [Instr.sameNow, if_true]
    by_cases c : a = k
    · rw [if_pos c, if_pos c]
      subst c
      refine .inr ⟨0, x, e, rfl, ?_, rfl, h1, rfl⟩
      simp [h2]
    · rw [if_neg c, if_neg c]
      have c' : (k == a) = false := by simp; exact fun e => c e.symm
      rw [c']
      rcases find_map k v l m (i + 1) h3 with ⟨g1, g2, g3⟩ | ⟨j, y, e', g1, g2, g3, g4, g5⟩
      · exact .inl ⟨g1, g2, by rw [g3]; rfl⟩
      · refine .inr ⟨j + 1, y, e', g1, ?_, g3, g4, by rw [g5]; rfl⟩
        rw [g2]
        congr 3
        rw [Nat.add_assoc, Nat.add_comm 1 j]
end
section
variable {P : Program} {N : Nat} {Q : Exit → Act → World → Prop} {E : Env} {w : World} {ops : List Oper} {tab : Tab} {β : Type} {enc : β → Value}
theorem RW.makeMap {i d : Nat} {o : Oper} {r : OT} {T : TypeId} {c : Cls} (enc : β → Value) (hc : c = .X ∨ c = .M) (hn : Nx ops N E i o d) (hop : o.op = .makeMap T none)
    (h : ∀ b w', Ext w w' → w.heap.size ≤ b → MapB w'.heap b enc [] → RW P N ops Q r ((d, (.map (some b))) :: E) w') : RW P N ops Q (.one i c r) E w := by
  have hx : Ext w (w.alloc (.map #[] 0)) := Ext.alloc w _
  refine RW.stepX (v := .map (some w.heap.size)) hc hn (fun ρ hρ => ?_) hx (h w.heap.size _ hx (Nat.le_refl _) ⟨#[], 0, (heap_alloc w _).1, rfl⟩)
  unfold execOp
  simp [hop, Instr.makeMap]
theorem run_lookupB {T kt et : TypeId} {te : Ti} {m : List (Int × β)} {b : Nat} {k : Int} {z0 : β} (hT : TabOk P tab) (hu : P.underlying T = some (.map kt et)) (hk : P.underlying kt = some (.int .i64)) (hge : tab.get et = some te) (hz : ofCells te.ti te.zero = enc z0) {w : World} (hm : MapB w.heap b enc m) (ok : Bool) :
    (Instr.lookup T (.map (some b)) (.int .i64 k) ok).run P w = .ok (if ok then .tuple #[enc ((mget m k).getD z0), .bool (mget m k).isSome] else enc ((mget m k).getD z0)) w := by
  obtain ⟨es, clock, hb, he⟩ := hm
  have hck : ∀ e, (Instr.checkKey e 10000 kt (.int .i64 k)).run P w = .ok () w := fun e => run_checkKey (d := .int .i64) (k := .int .i64 k) hk rfl e 9999
  rcases find_map k z0 es.toList m 0 he with ⟨g1, g2, _⟩ | ⟨j, x, e, g1, g2, _⟩
  · rw [g1]
    simp [Instr.lookup, run_underlying hu, Go.MapKept.run_getObj_map hb, hck, run_findKey hk g2, (hT.get hge).run_zero, hz]
  · rw [g1]
    simp [Instr.lookup, run_underlying hu, Go.MapKept.run_getObj_map hb, hck, run_findKey hk g2]
/-- m[k]. -/
theorem RW.lookup {i d : Nat} {o : Oper} {r : OT} {T kt et : TypeId} {te : Ti} {x y : Operand} {m : List (Int × β)} {b : Nat} {k : Int} {z0 : β} {ok : Bool} (hT : TabOk P tab) (hu : P.underlying T = some (.map kt et)) (hk : P.underlying kt = some (.int .i64)) (hge : tab.get et = some te) (hz : ofCells te.ti te.zero = enc z0) (hm : MapB w.heap b enc m)
    (hn : Nx ops N E i o d) (hop : o.op = .lookup T x y ok) (hx : ev E x = some (.map (some b))) (hy : ev E y = some (.int .i64 k))
    (h : RW P N ops Q r ((d, (if ok then .tuple #[enc ((mget m k).getD z0), .bool (mget m k).isSome] else enc ((mget m k).getD z0))) :: E) w) : RW P N ops Q (.one i .L r) E w :=
  RW.stepL hn (fun ρ hρ w' hxt => by
    unfold execOp
    simp only [hop, hρ x _ hx, hρ y _ hy, Sem.run_bind, run_lookupB hT hu hk hge hz (hm.ext hxt) ok, Result.andThen_ok]
    rfl) h
theorem RW.lookup1 {i d : Nat} {o : Oper} {r : OT} {T kt et : TypeId} {te : Ti} {x y : Operand} {m : List (Int × β)} {b : Nat} {k : Int} {z0 : β} (hT : TabOk P tab) (hu : P.underlying T = some (.map kt et)) (hk : P.underlying kt = some (.int .i64)) (hge : tab.get et = some te) (hz : ofCells te.ti te.zero = enc z0) (hm : MapB w.heap b enc m)
    (hn : Nx ops N E i o d) (hop : o.op = .lookup T x y false) (hx : ev E x = some (.map (some b))) (hy : ev E y = some (.int .i64 k))
    (h : RW P N ops Q r ((d, enc ((mget m k).getD z0)) :: E) w) : RW P N ops Q (.one i .L r) E w := RW.lookup hT hu hk hge hz hm hn hop hx hy h
theorem RW.lookup2 {i d : Nat} {o : Oper} {r : OT} {T kt et : TypeId} {te : Ti} {x y : Operand} {m : List (Int × β)} {b : Nat} {k : Int} {z0 : β} (hT : TabOk P tab) (hu : P.underlying T = some (.map kt et)) (hk : P.underlying kt = some (.int .i64)) (hge : tab.get et = some te) (hz : ofCells te.ti te.zero = enc z0) (hm : MapB w.heap b enc m)
    (hn : Nx ops N E i o d) (hop : o.op = .lookup T x y true) (hx : ev E x = some (.map (some b))) (hy : ev E y = some (.int .i64 k))
    (h : RW P N ops Q r ((d, .tuple #[enc ((mget m k).getD z0), .bool (mget m k).isSome]) :: E) w) : RW P N ops Q (.one i .L r) E w := RW.lookup hT hu hk hge hz hm hn hop hx hy h
/-- m[k] = v. -/
theorem RW.mapUpdate {i : Nat} {o : Oper} {r : OT} {T kt et : TypeId} {x y z : Operand} {m : List (Int × β)} {b : Nat} {k : Int} {v : β} (hu : P.underlying T = some (.map kt et)) (hk : P.underlying kt = some (.int .i64)) (hm : MapB w.heap b enc m)
    (hn : Nx0 ops E i o) (hop : o.op = .mapUpdate T x y z) (hx : ev E x = some (.map (some b))) (hy : ev E y = some (.int .i64 k)) (hz : ev E z = some (enc v))
    (h : ∀ w', Upd (fun j _ => j = b) w w' → MapB w'.heap b enc (mset m k v) → RW P N ops Q r E w') : RW P N ops Q (.one i .M r) E w := by
  obtain ⟨es, clock, hb, he⟩ := hm
  have hck : ∀ e, (Instr.checkKey e 10000 kt (.int .i64 k)).run P w = .ok () w := fun e => run_checkKey (d := .int .i64) (k := .int .i64 k) hk rfl e 9999
  have upd : ∀ o' : Obj, Upd (fun j _ => j = b) w { w with heap := w.heap.setIfInBounds b o' } := fun o' =>
    ⟨rfl, rfl, rfl, by simp, fun j _ hj => by simp [Ne.symm hj]⟩
  have hsz : es.toList.length = m.length := by have := congrArg List.length he; simpa using this
  rcases find_map k v es.toList m 0 he with ⟨g1, g2, g3⟩ | ⟨j, x', e, g1, g2, g4, g5, g3⟩
  · refine RW.stepS hn (fun ρ hρ => ?_) (h { w with heap := w.heap.setIfInBounds b (.map (es.push { key := .int .i64 k, val := enc v, born := clock }) (clock + 1)) } (upd _) ⟨_, _, (heap_set hb).1, ?_⟩)
    · unfold execOp
      simp [hop, hρ x _ hx, hρ y _ hy, hρ z _ hz, Instr.mapUpdate, run_underlying hu, Go.MapKept.run_getObj_map hb, hck, run_findKey hk g2, Go.MapKept.run_setObj_map _ hb]
    · rw [g3, Array.toList_push, List.map_append, List.map_append, he]
      rfl
  · have hj : es[j]? = some e := by simpa using g4
    refine RW.stepS hn (fun ρ hρ => ?_) (h { w with heap := w.heap.setIfInBounds b (.map (es.modify j fun e => { e with key := .int .i64 k, val := enc v }) clock) } (upd _) ⟨_, _, (heap_set hb).1, ?_⟩)
    · unfold execOp
      simp [hop, hρ x _ hx, hρ y _ hy, hρ z _ hz, Instr.mapUpdate, run_underlying hu, Go.MapKept.run_getObj_map hb, hck, run_findKey hk g2, Go.MapKept.run_setObj_map _ hb, hj, g5, run_keyThatStays (d := .int .i64) (k := .int .i64 k) rfl]
    · rw [g3, Array.toList_modify]
      apply List.ext_getElem?
      intro q
      have hq := congrArg (fun l => l[q]?) he
      simp only [List.getElem?_map] at hq
      simp only [List.getElem?_map, List.getElem?_modify, List.getElem?_set]
      by_cases c : j = q
      · subst c
        rw [g4]
        rw [g4] at hq
        have hjm : j < m.length := by
          have := (List.getElem?_eq_some_iff.1 g4).1
          omega
        simp [hjm]
      · simp only [if_neg c]
        rw [← hq]
        cases es.toList[q]? <;> simp
end
/-! ### What a map's turn leaves -/
theorem UpdB.same {n : Nat} {a b c : World} (h : Upd (fun j _ => j = n) a b) (k : Upd (fun j _ => j = n) b c) : Upd (fun j _ => j = n) a c := Upd.trans h k fun i _ h1 h2 => h1 h2
theorem UpdB.turn {n : Nat} {T : TypeId} {l : List Seg3} {a b c : World} (h : Upd (fun j _ => j = n) a b) (k : Upd (rowS (okL l) T) b c) (hn : newL a.heap.size l) : Upd (fun j _ => j = n) a c := Upd.trans h k fun i hi _ h2 => by have := newL_le hn h2.1; omega
theorem UpdB.turnB {n m : Nat} {a b c : World} (h : Upd (fun j _ => j = n) a b) (k : Upd (fun j _ => j = m) b c) (hn : a.heap.size ≤ m) : Upd (fun j _ => j = n) a c := Upd.trans h k fun i hi _ h2 => by omega
/-- Block n, a map's, is in none of these. -/
def notInM (n : Nat) : List Seg3 → Prop
  | [] => True
  | p :: r => ((match p.2.2 with | some _ => True | none => False) ∨ (match p.2.1 with | some h => h ≤ n | none => False) ∨ n < p.1) ∧ notInM n r
theorem notInM_no {n : Nat} : ∀ {l : List Seg3}, notInM n l → okL l n none → False
  | [], _, h => h
  | p :: r, hn, h => by
    obtain ⟨lo, hi, T⟩ := p
    rcases h with h | h
    · obtain ⟨h1, h2, h3⟩ := h
      rcases hn.1 with g | g | g
      · cases T with
        | none => exact g
        | some t => simp at h3
      · cases hi with
        | none => exact g
        | some q => simp at h2 g; omega
      · simp at h1 g; omega
    · exact notInM_no hn.2 h
section
variable {w w' : World} {n : Nat} {β : Type} {enc : β → Value} {m : List (Int × β)} {α : Type} {d : Kd α} {l li : List Seg3} {A : Option Addr} {c : Nat} {xs : List α} {T2 : TypeId}
theorem Sl.turnM (k : Sl d w.heap (okL l) A xs) (hx : Upd (fun j _ => j = n) w w') (hb : MapB w.heap n enc m) (hn : notInM n l) : Sl d w'.heap (okL l) A xs := k.upd fun b hb' ho => hx.keep b hb' (fun e => by subst e; rw [hb.ty] at ho; exact notInM_no hn ho)
theorem Ow.turnM (k : Ow d T2 w.heap (okL l) (okL li) A c xs) (hx : Upd (fun j _ => j = n) w w') (hb : MapB w.heap n enc m) (hn : notInM n l) (hi : notInM n li) : Ow d T2 w'.heap (okL l) (okL li) A c xs :=
  k.upd (fun b hb' ho => hx.keep b hb' (fun e => by subst e; rw [hb.ty] at ho; exact notInM_no hn ho)) fun b hb' ho => hx.keep b hb' (fun e => by subst e; rw [hb.ty] at ho; exact notInM_no hi ho)
end
end Go.H
