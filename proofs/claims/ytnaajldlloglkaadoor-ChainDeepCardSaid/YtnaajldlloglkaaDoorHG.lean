/- Walking by explicit rules, part G: sets of blocks as lists, small helpers. Plain theorems over any program. -/
import Derived.Test.YtnaajldlloglkaaDoorHF
set_option linter.unusedVariables false
set_option linter.unusedSimpArgs false
namespace Go.H
open Go.RowKit
theorem bind_some {α β : Type} {o : Option α} {f : α → Option β} {r : β} (h : o.bind f = some r) : ∃ x, o = some x ∧ f x = some r := by
  cases o with
  | none => cases h
  | some x => exact ⟨x, rfl, h⟩
theorem guard_some {α : Type} {p : Prop} [Decidable p] {x : Option α} {r : α} (h : (if p then x else none) = some r) : p ∧ x = some r := by
  by_cases c : p
  · rw [if_pos c] at h; exact ⟨c, h⟩
  · rw [if_neg c] at h; cases h
theorem beq_t {a b : Int} (h : a = b) : (a == b) = true := beq_iff_eq.2 h
theorem beq_f {a b : Int} (h : ¬ a = b) : (a == b) = false := beq_eq_false_iff_ne.2 h
theorem bne_f {a b : Int} (h : a = b) : (a != b) = false := by simp [h]
theorem bne_t {a b : Int} (h : ¬ a = b) : (a != b) = true := by simp [h]
theorem bool_f {b : Bool} (h : ¬ b = true) : b = false := by simpa using h
theorem not_t {b : Bool} (h : b = false) : (!b) = true := by simp [h]
theorem not_f {b : Bool} (h : b = true) : (!b) = false := by simp [h]

/-- A set of blocks: from lo on, below hi (if told), of elements T (if told). -/
abbrev Seg3 := Nat × Option Nat × Option TypeId
def inS (p : Seg3) (b : Nat) (t : Option TypeId) : Prop := p.1 ≤ b ∧ (match p.2.1 with | some h => b < h | none => True) ∧ (match p.2.2 with | some T => t = some T | none => True)
def okL : List Seg3 → Fp
  | [] => fun _ _ => False
  | p :: r => fun b t => inS p b t ∨ okL r b t
/-- All blocks there are. -/
def okAll : Fp := fun _ _ => True
def oldS (n : Nat) : Seg3 := (0, some n, none)
def newR (lo hi : Nat) (T : TypeId) : Seg3 := (lo, some hi, some T)
def newF (lo : Nat) (T : TypeId) : Seg3 := (lo, none, some T)
section
variable {α : Type} {d : Kd α} {h : Heap} {A : Option Addr} {c : Nat} {xs : List α} {T : TypeId} {ok ok' oi : Fp}
theorem Sl.old (k : Sl d h ok A xs) (n : Nat) (hn : n = h.size) : Sl d h (okL [oldS n]) A xs := k.mono fun b hb _ => .inl ⟨Nat.zero_le _, by subst hn; exact hb, trivial⟩
theorem Sl.all (k : Sl d h ok A xs) : Sl d h okAll A xs := k.mono fun _ _ _ => trivial
theorem Ow.all (k : Ow d T h ok oi A c xs) : Sl d h okAll A xs := k.sl.all
/-- What a row of the call's own may turn, told by its set. -/
def rowS (ok : Fp) (T : TypeId) : Fp := fun b t => ok b t ∧ t = some T
theorem Ow.upd_sub {w w' : World} (k : Ow d T w.heap ok oi A c xs) (hu : Upd (ownS A c) w w') : Upd (rowS ok T) w w' := hu.mono fun b hb hs => by
  rcases k with ⟨rfl, rfl⟩ | ⟨b', cur, fl, rfl, h1, h2, h3, h4, _⟩
  · exact absurd hs.1 (by omega)
  · obtain ⟨_, ad, e, rfl⟩ := hs
    cases e
    rw [ty_cells h4]
    exact ⟨h3, rfl⟩
theorem Ow.own_ok {w : World} (k : Ow d T w.heap ok oi A c xs) {b : Nat} (hs : ownS A c b none) : ok b (some T) ∧ ty w.heap b = some T := by
  rcases k with ⟨rfl, rfl⟩ | ⟨b', cur, fl, rfl, h1, h2, h3, h4, _⟩
  · exact absurd hs.1 (by omega)
  · obtain ⟨_, ad, e, rfl⟩ := hs
    cases e
    exact ⟨h3, ty_cells h4⟩
end

/-! ### 17. Sets of blocks as lists: what covers what, what is apart -/
def cov (q p : Seg3) : Prop := q.1 ≤ p.1 ∧ (match q.2.1, p.2.1 with | none, _ => True | some h', some h => h ≤ h' | some _, none => False) ∧ (match q.2.2, p.2.2 with | none, _ => True | some a, some b => b = a | some _, none => False)
def cov1 (p : Seg3) : List Seg3 → Prop
  | [] => False
  | q :: r => cov q p ∨ cov1 p r
def subL : List Seg3 → List Seg3 → Prop
  | [], _ => True
  | p :: r, l => cov1 p l ∧ subL r l
theorem inS_cov {q p : Seg3} (h : cov q p) {b : Nat} {t : Option TypeId} (k : inS p b t) : inS q b t := by
  obtain ⟨q1, q2, q3⟩ := q
  obtain ⟨p1, p2, p3⟩ := p
  obtain ⟨h1, h2, h3⟩ := h
  obtain ⟨k1, k2, k3⟩ := k
  simp only at h1 h2 h3 k1 k2 k3
  refine ⟨Nat.le_trans h1 k1, ?_, ?_⟩
  · cases q2 <;> cases p2 <;> simp_all
    omega
  · cases q3 <;> cases p3 <;> simp_all
theorem okL_cov1 {p : Seg3} {b : Nat} {t : Option TypeId} (k : inS p b t) : ∀ {l : List Seg3}, cov1 p l → okL l b t
  | [], h => h.elim
  | q :: r, h => by
    rcases h with h | h
    · exact .inl (inS_cov h k)
    · exact .inr (okL_cov1 k h)
theorem okL_sub {b : Nat} {t : Option TypeId} : ∀ {l l' : List Seg3}, subL l l' → okL l b t → okL l' b t
  | [], _, _, k => k.elim
  | p :: r, l', h, k => by
    rcases k with k | k
    · exact okL_cov1 k h.1
    · exact okL_sub h.2 k
theorem okL_append {l l' : List Seg3} {b : Nat} {t : Option TypeId} : okL (l ++ l') b t ↔ okL l b t ∨ okL l' b t := by
  induction l with
  | nil => simp [okL]
  | cons p r ih => simp only [List.cons_append, okL, ih, or_assoc]
def disj (T : TypeId) (p q : Seg3) : Prop := (match p.2.2 with | some T' => T' ≠ T | none => False) ∨ (match p.2.1 with | some h => h ≤ q.1 | none => False) ∨ (match q.2.1 with | some h => h ≤ p.1 | none => False)
def oneD (T : TypeId) (p : Seg3) : List Seg3 → Prop
  | [] => True
  | q :: r => disj T p q ∧ oneD T p r
def allD (T : TypeId) : List Seg3 → List Seg3 → Prop
  | [], _ => True
  | p :: r, l => oneD T p l ∧ allD T r l
theorem disj_no {T : TypeId} {p q : Seg3} {b : Nat} (h : disj T p q) (k : inS p b (some T)) (k2 : inS q b (some T)) : False := by
  obtain ⟨q1, q2, q3⟩ := q
  obtain ⟨p1, p2, p3⟩ := p
  obtain ⟨h1, h2, h3⟩ := k
  obtain ⟨k1, k2, k3⟩ := k2
  simp only at h1 h2 h3 k1 k2 k3
  rcases h with h | h | h <;> simp only at h
  · cases p3 with
    | none => exact h
    | some T' => simp only [Option.some.injEq] at h3; exact h h3.symm
  · cases p2 with
    | none => exact h
    | some x => simp only at h h2; omega
  · cases q2 with
    | none => exact h
    | some x => simp only at h k2; omega
theorem oneD_no {T : TypeId} {p : Seg3} {b : Nat} (k : inS p b (some T)) : ∀ {l : List Seg3}, oneD T p l → okL l b (some T) → False
  | [], _, h => h
  | q :: r, hd, h => by
    rcases h with h | h
    · exact disj_no hd.1 k h
    · exact oneD_no k hd.2 h
theorem dis_of {T : TypeId} : ∀ {l l' : List Seg3}, allD T l l' → ∀ b t, okL l b t → rowS (okL l') T b t → False
  | [], _, _, _, _, h, _ => h
  | p :: r, l', hd, b, t, h, k => by
    obtain ⟨k, rfl⟩ := k
    rcases h with h | h
    · exact oneD_no h hd.1 k
    · exact dis_of hd.2 b _ h ⟨k, rfl⟩
/-- All of a list's blocks stand from n on. -/
def newL (n : Nat) : List Seg3 → Prop
  | [] => True
  | p :: r => n ≤ p.1 ∧ newL n r
theorem newL_le {n : Nat} {b : Nat} {t : Option TypeId} : ∀ {l : List Seg3}, newL n l → okL l b t → n ≤ b
  | [], _, h => h.elim
  | p :: r, hn, h => by
    rcases h with h | h
    · exact Nat.le_trans hn.1 h.1
    · exact newL_le hn.2 h
theorem Ext.turn {T : TypeId} {l : List Seg3} {a b c : World} (h : Ext a b) (k : Upd (rowS (okL l) T) b c) (hn : newL a.heap.size l) : Ext a c := Ext.of_new h k fun i hi hs => by have := newL_le hn hs.1; omega
theorem Ext.turnB {n : Nat} {a b c : World} (h : Ext a b) (k : Upd (fun j _ => j = n) b c) (hn : a.heap.size ≤ n) : Ext a c := Ext.of_new h k fun i hi hs => by omega
/-- A block that a list of sets doesn't hold. -/
def notIn (n : Nat) (T : TypeId) : List Seg3 → Prop
  | [] => True
  | p :: r => ((match p.2.2 with | some T' => T' ≠ T | none => False) ∨ n < p.1 ∨ (match p.2.1 with | some h => h ≤ n | none => False)) ∧ notIn n T r
theorem notIn_no {n : Nat} {T : TypeId} : ∀ {l : List Seg3}, notIn n T l → okL l n (some T) → False
  | [], _, h => h
  | p :: r, hn, h => by
    rcases h with h | h
    · obtain ⟨p1, p2, p3⟩ := p
      obtain ⟨h1, h2, h3⟩ := h
      simp only at h1 h2 h3
      rcases hn.1 with hh | hh | hh <;> simp only at hh
      · cases p3 with
        | none => exact hh
        | some T' => simp only [Option.some.injEq] at h3; exact hh h3.symm
      · omega
      · cases p2 with
        | none => exact hh
        | some x => simp only at hh h2; omega
    · exact notIn_no hn.2 h
section
variable {α : Type} {d : Kd α} {A : Option Addr} {c : Nat} {xs : List α} {T : TypeId} {l l' li li' : List Seg3} {w w' : World}
theorem Sl.turnL (k : Sl d w.heap (okL l) A xs) (hx : Upd (rowS (okL l') T) w w') (hd : allD T l l') : Sl d w'.heap (okL l) A xs := k.turn hx (dis_of hd)
theorem Ow.turnL {T2 : TypeId} (k : Ow d T2 w.heap (okL l) (okL li) A c xs) (hx : Upd (rowS (okL l') T) w w') (hd : allD T l l') (hi : allD T li l') : Ow d T2 w'.heap (okL l) (okL li) A c xs := k.turn hx (dis_of hd) (dis_of hi)
theorem Sl.turnB {n : Nat} {cs : List Value} (k : Sl d w.heap (okL l) A xs) (hx : Upd (fun j _ => j = n) w w') (hb : Box w.heap n T cs) (hn : notIn n T l) : Sl d w'.heap (okL l) A xs := k.upd fun b hb' ho => hx.keep b hb' (fun e => by subst e; rw [hb.ty] at ho; exact notIn_no hn ho)
theorem Ow.turnB {T2 : TypeId} {n : Nat} {cs : List Value} (k : Ow d T2 w.heap (okL l) (okL li) A c xs) (hx : Upd (fun j _ => j = n) w w') (hb : Box w.heap n T cs) (hn : notIn n T l) (hi : notIn n T li) : Ow d T2 w'.heap (okL l) (okL li) A c xs :=
  k.upd (fun b hb' ho => hx.keep b hb' (fun e => by subst e; rw [hb.ty] at ho; exact notIn_no hn ho)) fun b hb' ho => hx.keep b hb' (fun e => by subst e; rw [hb.ty] at ho; exact notIn_no hi ho)
theorem Box.turnB {n m : Nat} {T2 : TypeId} {cs : List Value} (k : Box w.heap m T2 cs) (hx : Upd (fun j _ => j = n) w w') (hne : m ≠ n) : Box w'.heap m T2 cs := k.upd hx hne
theorem Box.turnL {m : Nat} {T2 : TypeId} {cs : List Value} (k : Box w.heap m T2 cs) (hx : Upd (rowS (okL l') T) w w') (hd : T2 ≠ T ∨ allD T [(m, some (m + 1), some T2)] l') : Box w'.heap m T2 cs := k.upd hx (by
  rintro ⟨ho, e⟩
  rcases hd with hd | hd
  · cases e; exact hd rfl
  · exact dis_of hd m (some T2) (.inl ⟨Nat.le_refl _, Nat.lt_succ_self _, rfl⟩) ⟨ho, e⟩)
theorem Sl.sub (k : Sl d w.heap (okL l) A xs) (h : subL l l') : Sl d w.heap (okL l') A xs := k.mono fun _ _ ho => okL_sub h ho
theorem Ow.sub (k : Ow d T w.heap (okL l) (okL li) A c xs) (h : subL l l') (hi : subL li li') : Ow d T w.heap (okL l') (okL li') A c xs := k.mono (fun _ _ ho => okL_sub h ho) fun _ _ ho => okL_sub hi ho
/-- No block stands beyond the heap. -/
def closeS (n : Nat) : List Seg3 → List Seg3
  | [] => []
  | (lo, hi, T) :: r => (lo, (match hi with | some h => some h | none => some n), T) :: closeS n r
theorem closeS_ok {n b : Nat} {t : Option TypeId} (hb : b < n) : ∀ {l : List Seg3}, okL l b t → okL (closeS n l) b t
  | [], h => h
  | (lo, hi, T) :: r, h => by
    rcases h with h | h
    · refine .inl ⟨h.1, ?_, h.2.2⟩
      cases hi with
      | none => exact hb
      | some x => exact h.2.1
    · exact .inr (closeS_ok hb h)
theorem Sl.close (k : Sl d w.heap (okL l) A xs) : Sl d w.heap (okL (closeS w.heap.size l)) A xs := k.mono fun _ hb ho => closeS_ok hb ho
theorem Ow.close (k : Ow d T w.heap (okL l) (okL li) A c xs) : Ow d T w.heap (okL (closeS w.heap.size l)) (okL (closeS w.heap.size li)) A c xs := k.mono (fun _ hb ho => closeS_ok hb ho) fun _ hb ho => closeS_ok hb ho
/-- A row as one that is read. -/
theorem Ow.slL (k : Ow d T w.heap (okL l) (okL li) A c xs) : Sl d w.heap (okL (l ++ li)) A xs := k.sl.mono fun _ _ ho => okL_append.2 ho
variable {P : Program} {tab : Tab} {N : Nat} {Q : Exit → Act → World → Prop} {E : Env} {ops : List Oper}
theorem RW.appendL {i dd : Nat} {o : Oper} {r : OT} {T e : TypeId} {t te : Ti} {x y : Operand} {l li ly : List Seg3} {A B : Option Addr} {c cB n : Nat} {xs ys : List α} {ycs : List Value} (hT : TabOk P tab) (hO : Ow d e w.heap (okL l) (okL li) A c xs) (hys : Ch d w.heap (okL ly) ycs ys) (hB : 0 < ys.length → ∃ ad, B = some ad ∧ At w.heap ad ycs)
    (hap : allD e ly l) (h63 : xs.length + ys.length ≤ maxLen) (hby : (xs.length + ys.length) * te.bytes ≤ 140737488355328)
    (hn : Nx ops N E i o dd) (hop : o.op = .call ⟨.builtin .append, #[x, y], #[T, T]⟩) (hg : tab.get T = some t) (hti : t.ti = .slice e) (hge : tab.get e = some te) (hd : d.sz = te.size) (hx : ev E x = some (.slice A xs.length c)) (hy : ev E y = some (.slice B n cB)) (hlen : n = ys.length)
    (h : ∀ A' c' w', Upd (rowS (okL l) e) w w' → Ow d e w'.heap (okL (l ++ [newF w.heap.size e])) (okL (li ++ ly)) A' c' (xs ++ ys) → RW P N ops Q r ((dd, .slice A' (xs ++ ys).length c') :: E) w') : RW P N ops Q (.one i .M r) E w :=
  RW.append hT hO hys hB (fun b hb ho hs => by obtain ⟨h1, h2⟩ := hO.own_ok hs; rw [h2] at ho; exact dis_of hap b _ ho ⟨h1, rfl⟩) h63 hby hn hop hg hti hge hd hx hy hlen fun A' c' w' hu ho => h A' c' w' (hO.upd_sub hu) (ho.mono (fun b hb hh => by
    rcases hh with hh | hh
    · exact okL_append.2 (.inl hh)
    · exact okL_append.2 (.inr (.inl ⟨hh.1, trivial, hh.2⟩))) fun b hb hh => okL_append.2 hh)
theorem RW.append1L {i dd : Nat} {o : Oper} {r : OT} {T e : TypeId} {t te : Ti} {x y : Operand} {l li ly : List Seg3} {A : Option Addr} {c b : Nat} {xs : List α} {v : α} {ycs : List Value} (hT : TabOk P tab) (hO : Ow d e w.heap (okL l) (okL li) A c xs) (hb : Box w.heap b e ycs) (hv : d.rep w.heap (okL ly) ycs v)
    (hap : allD e ly l) (h63 : xs.length + 1 ≤ maxLen) (hby : (xs.length + 1) * te.bytes ≤ 140737488355328)
    (hn : Nx ops N E i o dd) (hop : o.op = .call ⟨.builtin .append, #[x, y], #[T, T]⟩) (hg : tab.get T = some t) (hti : t.ti = .slice e) (hge : tab.get e = some te) (hd : d.sz = te.size) (hx : ev E x = some (.slice A xs.length c)) (hy : ev E y = some (.slice (some ⟨b, 0, none⟩) 1 1))
    (h : ∀ A' c' w', Upd (rowS (okL l) e) w w' → Ow d e w'.heap (okL (l ++ [newF w.heap.size e])) (okL (li ++ ly)) A' c' (xs ++ [v]) → RW P N ops Q r ((dd, .slice A' (xs ++ [v]).length c') :: E) w') : RW P N ops Q (.one i .M r) E w := by
  have hc : Ch d w.heap (okL ly) (ycs ++ []) [v] := Ch.cons hv Ch.nil
  rw [List.append_nil] at hc
  exact RW.appendL hT hO hc (fun _ => ⟨_, rfl, by have := hb.at 0; simpa using this⟩) hap h63 hby hn hop hg hti hge hd hx hy rfl h
theorem RW.storeElL {i : Nat} {o : Oper} {r : OT} {T0 e : TypeId} {t0 : Ti} {x z : Operand} {l li lv : List Seg3} {A : Option Addr} {ad : Addr} {c : Nat} {xs : List α} {j k : Nat} {v : Value} {y : α} (hT : TabOk P tab) (hO : Ow d e w.heap (okL l) (okL li) A c xs) (hj : j < xs.length) (z0 : α) (us : List Value)
    (hy : ∀ cs ok', d.rep w.heap ok' cs (xs.getD j z0) → k + us.length ≤ cs.length ∧ d.rep w.heap (orS ok' (okL lv)) (lay cs k us) y) (hap : allD e lv l)
    (hn : Nx0 ops E i o) (hop : o.op = .store T0 x z) (hg : tab.get T0 = some t0) (hA : A = some ad) (hx : ev E x = some (.pointer (some (addA (ad.add (j * d.sz)) k)))) (hz : ev E z = some v) (hu : v.cells = us.toArray) (hl : us.length = t0.size) (h1 : us.all Value.oneCell' = true)
    (h : ∀ w', Upd (rowS (okL l) e) w w' → Ow d e w'.heap (okL l) (okL (li ++ lv)) A c (xs.set j y) → RW P N ops Q r E w') : RW P N ops Q (.one i .M r) E w :=
  RW.storeEl hT hO hj z0 us hy (fun b hb ho hs => by obtain ⟨h1, h2⟩ := hO.own_ok hs; rw [h2] at ho; exact dis_of hap b _ ho ⟨h1, rfl⟩) hn hop hg hA hx hz hu hl h1 fun w' hu' ho => h w' (hO.upd_sub hu') (ho.mono (fun b hb hh => hh) fun b hb hh => okL_append.2 hh)
end
/-- The element at a whole number. -/
def rd {α : Type} [Inhabited α] (xs : List α) (i : Int) : α := xs.getD i.toNat default
end Go.H
