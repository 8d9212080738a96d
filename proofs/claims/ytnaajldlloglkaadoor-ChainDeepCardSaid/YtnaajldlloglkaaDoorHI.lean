/- Walking by explicit rules, part I: spread appends, slices in slices, arrays, ends without a return. Plain theorems over any program. -/
import Derived.Test.YtnaajldlloglkaaDoorHH
import Derived.WalkSpells
set_option linter.unusedVariables false
set_option linter.unusedSimpArgs false
namespace Go.H
open Go.RowKit
/-! ### 18. A slice that is read, as a row of cells -/
section
variable {α : Type} {d : Kd α} {h : Heap} {ok : Fp} {A : Option Addr} {xs : List α}
theorem Sl.ch_to (k : Sl d h ok A xs) : ∀ n, n ≤ xs.length → ∃ ycs : List Value, ycs.length = n * d.sz ∧ (∀ i x, i < n → xs[i]? = some x → ∃ cs, d.rep h ok cs x ∧ ∀ j u, cs[j]? = some u → ycs[i * d.sz + j]? = some u) ∧ ∀ ad, A = some ad → At h ad ycs
  | 0, _ => ⟨[], by simp, fun i x hi => by omega, fun ad _ j u hu => by simp at hu⟩
  | n + 1, hn => by
    obtain ⟨ycs, hl, he, hA⟩ := k.ch_to n (by omega)
    obtain ⟨ad, cs, e, _, _, hr, hat⟩ := k n _ (List.getElem?_eq_getElem (show n < xs.length by omega))
    have hcl := d.len hr
    refine ⟨ycs ++ cs, by rw [List.length_append, hl, hcl, Nat.add_mul]; omega, fun i x hi hx => ?_, fun ad' e' j u hu => ?_⟩
    · by_cases hin : i < n
      · obtain ⟨cs', hr', hc'⟩ := he i x hin hx
        refine ⟨cs', hr', fun j u hu => ?_⟩
        have h1 := hc' j u hu
        have h2 := (List.getElem?_eq_some_iff.1 h1).1
        rw [List.getElem?_append_left h2]
        exact h1
      · obtain rfl : i = n := by omega
        rw [List.getElem?_eq_getElem (show i < xs.length by omega)] at hx
        cases hx
        refine ⟨cs, hr, fun j u hu => ?_⟩
        rw [List.getElem?_append_right (by omega), hl, show i * d.sz + j - i * d.sz = j by omega]
        exact hu
    · rw [e] at e'
      cases e'
      rcases Nat.lt_or_ge j ycs.length with hj | hj
      · rw [List.getElem?_append_left hj] at hu
        exact hA ad e j u hu
      · rw [List.getElem?_append_right hj] at hu
        have := hat (j - ycs.length) u hu
        rw [add_add, hl, show n * d.sz + (j - n * d.sz) = j by rw [hl] at hj; omega] at this
        exact this
theorem Sl.ch (k : Sl d h ok A xs) : ∃ ycs, Ch d h ok ycs xs ∧ (0 < xs.length → ∃ ad, A = some ad ∧ At h ad ycs) := by
  obtain ⟨ycs, hl, he, hA⟩ := k.ch_to xs.length (Nat.le_refl _)
  refine ⟨ycs, ⟨hl, fun i x hx => he i x (List.getElem?_eq_some_iff.1 hx).1 hx⟩, fun h0 => ?_⟩
  obtain ⟨ad, cs, e, _⟩ := k 0 _ (List.getElem?_eq_getElem h0)
  exact ⟨ad, e, hA ad e⟩
theorem sl_at {xs : List (List α)} (s : Sl (Kd.sl d) h ok A xs) {i : Int} (h0 : 0 ≤ i) (h1 : i < (xs.length : Int)) : ∃ ad A' c', A = some ad ∧ At h (ad.add (i.toNat * 1)) [.slice A' (rd xs i).length c'] ∧ (rd xs i).length ≤ c' ∧ Sl d h ok A' (rd xs i) := by
  obtain ⟨ad, cs, e, ⟨A', c', rfl, hl, hs⟩, hA⟩ := s.at_ h0 h1 default
  exact ⟨ad, A', c', e, hA, hl, hs⟩
theorem ow_at {T : TypeId} {xs : List (List α)} (s : Sl (Kd.ow d T) h ok A xs) {i : Int} (h0 : 0 ≤ i) (h1 : i < (xs.length : Int)) : ∃ ad A' c', A = some ad ∧ At h (ad.add (i.toNat * 1)) [.slice A' (rd xs i).length c'] ∧ Ow d T h ok ok A' c' (rd xs i) := by
  obtain ⟨ad, cs, e, ⟨A', c', rfl, hs⟩, hA⟩ := s.at_ h0 h1 default
  exact ⟨ad, A', c', e, hA, hs⟩
end
section
variable {α : Type} {d : Kd α} {h : Heap} {ok oi : Fp} {A : Option Addr} {c : Nat} {T T2 : TypeId}
/-- An element of a row of the call's own: it leads to what the row's elements lead to. -/
theorem Ow.at_ {xs : List α} (k : Ow d T h ok oi A c xs) {i : Int} (h0 : 0 ≤ i) (h1 : i < xs.length) (z : α) : ∃ ad cs, A = some ad ∧ d.rep h oi cs (xs.getD i.toNat z) ∧ At h (ad.add (i.toNat * d.sz)) cs := by
  have hlt : i.toNat < xs.length := by omega
  rcases k with ⟨rfl, rfl⟩ | ⟨b, cur, fl, rfl, h1, h2, h3, h4, h5, h6, h7⟩
  · simp at hlt
  · obtain ⟨cs, hr, hc⟩ := h7.2 i.toNat _ (List.getElem?_eq_getElem hlt)
    refine ⟨_, cs, rfl, ?_, fun j u hu => ?_⟩
    · rw [List.getD_eq_getElem?_getD, List.getElem?_eq_getElem hlt]
      exact d.mono hr fun b' _ ho => ho.1
    · rw [add_lit0]
      have e : ((⟨b, i.toNat * d.sz, none⟩ : Addr).add j) = ⟨b, i.toNat * d.sz + j, none⟩ := by unfold Addr.add; split <;> simp_all
      rw [e, cellH_block h4]
      have := hc j u hu
      rw [← h6, List.getElem?_take] at this
      split at this
      · simpa using this
      · cases this
theorem Ow.ch {xs : List α} (k : Ow d T h ok oi A c xs) : ∃ ycs, Ch d h oi ycs xs ∧ (0 < xs.length → ∃ ad, A = some ad ∧ At h ad ycs) := by
  rcases k with ⟨rfl, rfl⟩ | ⟨b, cur, fl, rfl, h1, h2, h3, h4, h5, h6, h7⟩
  · exact ⟨[], Ch.nil, fun h0 => by simp at h0⟩
  · refine ⟨fl, h7.mono fun _ _ ho => ho.1, fun _ => ⟨_, rfl, fun j u hu => ?_⟩⟩
    rw [add_lit0, cellH_block h4]
    rw [← h6, List.getElem?_take] at hu
    split at hu
    · simpa using hu
    · cases hu
theorem sl_ato {xs : List (List α)} (s : Ow (Kd.sl d) T h ok oi A c xs) {i : Int} (h0 : 0 ≤ i) (h1 : i < (xs.length : Int)) : ∃ ad A' c', A = some ad ∧ At h (ad.add (i.toNat * 1)) [.slice A' (rd xs i).length c'] ∧ (rd xs i).length ≤ c' ∧ Sl d h oi A' (rd xs i) := by
  obtain ⟨ad, cs, e, ⟨A', c', rfl, hl, hs⟩, hA⟩ := s.at_ h0 h1 default
  exact ⟨ad, A', c', e, hA, hl, hs⟩
theorem ow_ato {xs : List (List α)} (s : Ow (Kd.ow d T2) T h ok oi A c xs) {i : Int} (h0 : 0 ≤ i) (h1 : i < (xs.length : Int)) : ∃ ad A' c', A = some ad ∧ At h (ad.add (i.toNat * 1)) [.slice A' (rd xs i).length c'] ∧ Ow d T2 h oi oi A' c' (rd xs i) := by
  obtain ⟨ad, cs, e, ⟨A', c', rfl, hs⟩, hA⟩ := s.at_ h0 h1 default
  exact ⟨ad, A', c', e, hA, hs⟩
/-- Cells of elements that lead nowhere. -/
theorem Ch.flat {h' : Heap} {ok' : Fp} {fl : List Value} {xs : List α} (hf : ∀ {cs x}, d.rep h ok cs x → d.rep h' ok' cs x) (k : Ch d h ok fl xs) : Ch d h' ok' fl xs := ⟨k.1, fun i x hx => by
  obtain ⟨cs, hr, hc⟩ := k.2 i x hx
  exact ⟨cs, hf hr, hc⟩⟩
end
section
variable {α : Type} {d d' : Kd α} {h : Heap} {ok oi : Fp} {A : Option Addr} {c : Nat} {T : TypeId} {xs : List α}
theorem Sl.to (hf : ∀ {ok cs x}, d.rep h ok cs x → d'.rep h ok cs x) (hsz : d.sz = d'.sz) (k : Sl d h ok A xs) : Sl d' h ok A xs := fun i x hx => by
  obtain ⟨ad, cs, e, h1, h2, h3, h4⟩ := k i x hx
  exact ⟨ad, cs, e, h1, h2, hf h3, by rw [← hsz]; exact h4⟩
theorem ow_sl_rep (hf : ∀ {ok cs x}, d.rep h ok cs x → d'.rep h ok cs x) (hsz : d.sz = d'.sz) {ok : Fp} {cs : List Value} (k : (Kd.ow d T).rep h ok cs xs) : (Kd.sl d').rep h ok cs xs := by
  obtain ⟨A, c, rfl, ho⟩ := k
  exact ⟨A, c, rfl, ho.len, (ho.sl.mono fun _ _ hh => by rcases hh with hh | hh <;> exact hh).to hf hsz⟩
end
section
variable {α : Type} {d : Kd α} {w : World} {A : Option Addr} {c n : Nat} {T T2 : TypeId} {xs : List α} {l l' li : List Seg3} {cs : List Value}
theorem Sl.off (k : Sl d w.heap (okL l) A xs) (hb : Box w.heap n T cs) (hn : notIn n T l) (hs : subL l l') : Sl d w.heap (off1 (okL l') n) A xs := k.mono fun b _ ho => ⟨okL_sub hs ho, fun e => by subst e; rw [hb.ty] at ho; exact notIn_no hn ho⟩
theorem Ow.off (k : Ow d T2 w.heap (okL l) (okL li) A c xs) (hb : Box w.heap n T cs) (hn : notIn n T l) (hn2 : notIn n T li) (hs : subL l l') (hs2 : subL li l') : Ow d T2 w.heap (off1 (okL l') n) (off1 (okL l') n) A c xs :=
  k.mono (fun b _ ho => ⟨okL_sub hs ho, fun e => by subst e; rw [hb.ty] at ho; exact notIn_no hn ho⟩) fun b _ ho => ⟨okL_sub hs2 ho, fun e => by subst e; rw [hb.ty] at ho; exact notIn_no hn2 ho⟩
end
/-! ### 19. Arrays: by what stands at each place -/
def arrF {β : Type} (g : β → Value) (n : Nat) (f : Nat → β) : List Value := (List.range n).map fun i => g (f i)
abbrev arrB (n : Nat) (f : Nat → Bool) : List Value := arrF Value.bool n f
abbrev arrI (k : IntKind) (n : Nat) (f : Nat → Int) : List Value := arrF (Value.int k) n f
def updF {β : Type} (f : Nat → β) (i : Nat) (v : β) : Nat → β := fun j => if j = i then v else f j
section
variable {β : Type} {g : β → Value} {n : Nat} {f f' : Nat → β}
theorem arrF_len : (arrF g n f).length = n := by simp [arrF]
theorem arrF_get {i : Nat} (hi : i < n) : (arrF g n f)[i]? = some (g (f i)) := by simp [arrF, hi]
theorem Box.elF {h : Heap} {b : Nat} {T : TypeId} (k : Box h b T (arrF g n f)) {i : Nat} (hi : i < n) : At h ⟨b, i, none⟩ [g (f i)] := by
  refine (k.at i).take 1 ?_
  apply List.ext_getElem?
  intro j
  rw [List.getElem?_take, List.getElem?_drop]
  cases j with
  | zero => simp [arrF_get hi]
  | succ j => simp
theorem lay_arrF {i : Nat} {v : β} : lay (arrF g n f) i [g v] = arrF g n (updF f i v) := by
  apply List.ext_getElem?
  intro j
  simp only [lay, List.getElem?_set, arrF_len]
  by_cases hj : j < n
  · rw [arrF_get hj, arrF_get hj]
    unfold updF
    by_cases e : i = j
    · subst e; simp [hj]
    · rw [if_neg e, if_neg (Ne.symm e)]
  · rw [List.getElem?_eq_none (by rw [arrF_len]; omega), List.getElem?_eq_none (by rw [arrF_len]; omega)]
    split
    · rename_i e; rw [if_neg (by omega)]
    · rfl
theorem lay_full : ∀ (us cs : List Value), us.length = cs.length → lay cs 0 us = us := by
  intro us cs h
  apply List.ext_getElem?
  intro j
  rw [lay_get us cs 0 (by omega)]
  split
  · simp
  · rw [List.getElem?_eq_none (by omega), List.getElem?_eq_none (by omega)]
theorem lay_arrFull : lay (arrF g n f) 0 (arrF g n f') = arrF g n f' := lay_full _ _ (by rw [arrF_len, arrF_len])
theorem arrF_all (hg : ∀ x, (g x).oneCell' = true) : (arrF g n f).all Value.oneCell' = true := by
  rw [List.all_eq_true]
  intro v hv
  obtain ⟨i, _, rfl⟩ := List.mem_map.1 hv
  exact hg _
theorem arrF_fit {i : Nat} (hi : i < n) : Nat.ble (i + 1) (arrF g n f).length = true := by rw [arrF_len]; simp; omega
theorem arrF_fitAll {m : Nat} (hm : m = n) : Nat.ble (0 + m) (arrF g n f).length = true := by rw [arrF_len, Nat.zero_add, hm]; simp
end
section
variable {P : Program} {N : Nat} {Q : Exit → Act → World → Prop} {E : Env} {w : World} {ops : List Oper} {tab : Tab}
/-- '&x[i]' of an array that is a block. -/
theorem RW.indexBox {i d : Nat} {o : Oper} {r : OT} {T e : TypeId} {x ix : Operand} {t te : Ti} {b m : Nat} {k : IntKind} {j : Int} (hT : TabOk P tab) (h0 : 0 ≤ j) (h1 : j < m) (hn : Nx ops N E i o d) (hop : o.op = .indexAddr T x ix) (hg : tab.get T = some t) (hti : t.ti = .arr m e) (hge : tab.get e = some te) (hsz : te.size = 1) (hx : ev E x = some (.pointer (some ⟨b, 0, none⟩))) (hi : ev E ix = some (.int k j))
    (h : RW P N ops Q r ((d, (.pointer (some ⟨b, j.toNat, none⟩))) :: E) w) : RW P N ops Q (.one i .W r) E w :=
  RW.stepW hn (fun ρ hρ w' => by
    obtain ⟨d, hd, ho⟩ := (hT.get hg).desc
    rw [hti] at ho
    cases ho
    have e1 : (⟨b, 0, none⟩ : Addr).add (j.toNat * te.size) = ⟨b, j.toNat, none⟩ := by rw [hsz, Nat.mul_one, add_lit0]
    unfold execOp
    simp [hop, hρ x _ hx, hρ ix _ hi, Instr.indexAt, asIntOf, underlying, hd, h0, h1, (hT.get hge).run_sizeOf, Instr.sureAddr, e1]) h
theorem RW.neg {i d : Nat} {o : Oper} {r : OT} {T : TypeId} {x : Operand} {k : IntKind} {a : Int} (hn : Nx ops N E i o d) (hop : o.op = .unOp .neg T x) (hx : ev E x = some (.int k a))
    (h : RW P N ops Q r ((d, .int k (k.wrap (0 - a))) :: E) w) : RW P N ops Q (.one i .W r) E w :=
  RW.stepW hn (fun ρ hρ w' => by
    have e1 : (Op.unary .neg (.int k a)).run P w' = .ok (.int k (k.wrap (0 - a))) w' := rfl
    unfold execOp
    simp [hop, hρ x _ hx, e1]) h
theorem NW.end_ {fn : Func} {R : Ending → World → Prop} (h : NW N .ret (bodyPost P fn R) E w) : NW N .normal (bodyPost P fn R) E w := fun hp a ha => h hp a ha
/-- A call of a function's value. -/
theorem RW.callV {i d : Nat} {o : Oper} {r : OT} {c : Cls} {cal : Operand} {as : Array Operand} {ts : Array TypeId} {f : FuncId} {cap : List Value} {args : List Value} {R : Ending → World → Prop} (hc : c = .X ∨ c = .M) (he : Enters P f) (hn : Nx ops N E i o d) (hop : o.op = .call ⟨.value cal, as, ts⟩)
    (hcal : ev E cal = some (.func (.func f) #[] cap.toArray)) (ha : evs E as.toList = some args) (hR : Calls P f (args ++ cap).toArray w R)
    (h : ∀ e w', R e w' → ∃ v, e = .returned v ∧ Ext w w' ∧ RW P N ops Q r ((d, v) :: E) w') : RW P N ops Q (.one i c r) E w :=
  RW.call (first := #[]) (cap := cap.toArray) hc he hn hop hcal ha (by simpa using hR) h
theorem RW.callFM {i d : Nat} {o : Oper} {r : OT} {cal : Operand} {as : Array Operand} {ts : Array TypeId} {f : FuncId} {cap : List Value} {args : List Value} {R : Ending → World → Prop} (he : Enters P f) (hn : Nx ops N E i o d) (hop : o.op = .call ⟨.value cal, as, ts⟩)
    (hcal : ev E cal = some (.func (.func f) #[] cap.toArray)) (ha : evs E as.toList = some args) (hR : Calls P f (args ++ cap).toArray w R)
    (h : ∀ e w', R e w' → ∃ v, e = .returned v ∧ RW P N ops Q r ((d, v) :: E) w') : RW P N ops Q (.one i .M r) E w :=
  RW.callM (first := #[]) (cap := cap.toArray) he hn hop hcal ha (by simpa using hR) h
theorem RW.callFM0 {i : Nat} {o : Oper} {r : OT} {cal : Operand} {as : Array Operand} {ts : Array TypeId} {f : FuncId} {cap : List Value} {args : List Value} {R : Ending → World → Prop} (he : Enters P f) (hn : Nx0 ops E i o) (hop : o.op = .call ⟨.value cal, as, ts⟩)
    (hcal : ev E cal = some (.func (.func f) #[] cap.toArray)) (ha : evs E as.toList = some args) (hR : Calls P f (args ++ cap).toArray w R)
    (h : ∀ e w', R e w' → ∃ v, e = .returned v ∧ RW P N ops Q r E w') : RW P N ops Q (.one i .M r) E w :=
  RW.callM0 (first := #[]) (cap := cap.toArray) he hn hop hcal ha (by simpa using hR) h
/-- A call carried out on the spot: what comes behind it stands where the callee returns. -/
theorem RW.callK {i d : Nat} {o : Oper} {r : OT} {c : Cls} {cal : Operand} {as : Array Operand} {ts : Array TypeId} {f : FuncId} {cap : List Value} {args : List Value} (hc : c = .X ∨ c = .M) (he : Enters P f) (hn : Nx ops N E i o d) (hop : o.op = .call ⟨.value cal, as, ts⟩)
    (hcal : ev E cal = some (.func (.func f) #[] cap.toArray)) (ha : evs E as.toList = some args) (hR : Calls P f (args ++ cap).toArray w (fun e w' => ∃ v, e = .returned v ∧ Ext w w' ∧ RW P N ops Q r ((d, v) :: E) w')) : RW P N ops Q (.one i c r) E w :=
  RW.callV hc he hn hop hcal ha hR fun _ _ h => h
theorem RW.callKM {i d : Nat} {o : Oper} {r : OT} {cal : Operand} {as : Array Operand} {ts : Array TypeId} {f : FuncId} {cap : List Value} {args : List Value} (he : Enters P f) (hn : Nx ops N E i o d) (hop : o.op = .call ⟨.value cal, as, ts⟩)
    (hcal : ev E cal = some (.func (.func f) #[] cap.toArray)) (ha : evs E as.toList = some args) (hR : Calls P f (args ++ cap).toArray w (fun e w' => ∃ v, e = .returned v ∧ RW P N ops Q r ((d, v) :: E) w')) : RW P N ops Q (.one i .M r) E w :=
  RW.callFM he hn hop hcal ha hR fun _ _ h => h
theorem RW.callKM0 {i : Nat} {o : Oper} {r : OT} {cal : Operand} {as : Array Operand} {ts : Array TypeId} {f : FuncId} {cap : List Value} {args : List Value} (he : Enters P f) (hn : Nx0 ops E i o) (hop : o.op = .call ⟨.value cal, as, ts⟩)
    (hcal : ev E cal = some (.func (.func f) #[] cap.toArray)) (ha : evs E as.toList = some args) (hR : Calls P f (args ++ cap).toArray w (fun e w' => ∃ v, e = .returned v ∧ RW P N ops Q r E w')) : RW P N ops Q (.one i .M r) E w :=
  RW.callFM0 he hn hop hcal ha hR fun _ _ h => h
/-- 's == nil'. -/
theorem RW.eqNil {i d : Nat} {o : Oper} {r : OT} {T e : TypeId} {x y : Operand} {T2 : TypeId} {t : Ti} {A : Option Addr} {n c : Nat} (hT : TabOk P tab) (hn : Nx ops N E i o d) (hop : o.op = .binOp .eql T x y T2) (hg : tab.get T = some t) (hti : t.ti = .slice e) (hx : ev E x = some (.slice A n c)) (hy : ev E y = some (.slice none 0 0))
    (h : RW P N ops Q r ((d, .bool A.isNone) :: E) w) : RW P N ops Q (.one i .W r) E w :=
  RW.stepW hn (fun ρ hρ w' => by
    obtain ⟨d, hd, ho⟩ := (hT.get hg).desc
    rw [hti] at ho
    cases ho
    have e1 := Lib.run_eql_slice_nil (P := P) w' T e A n c 0 0 hd
    unfold execOp
    simp [hop, hρ x _ hx, hρ y _ hy, eqGuard, e1]) h
end
end Go.H
