/- Walking by explicit rules, part E: kinds of elements; slices that are read (Sl), slices of the call's own (Ow). Plain theorems over any program. -/
import Derived.Test.YtnaajldlloglkaaDoorHD
set_option linter.unusedVariables false
set_option linter.unusedSimpArgs false
namespace Go.H
open Go.RowKit

/-! ### 14. Kinds -/
structure Kd (α : Type) where
  sz : Nat
  pos : 0 < sz
  rep : Heap → Fp → List Value → α → Prop
  len : ∀ {h ok cs x}, rep h ok cs x → cs.length = sz
  one : ∀ {h ok cs x}, rep h ok cs x → ∀ c ∈ cs, c.oneCell' = true
  upd : ∀ {h h' : Heap} {ok cs x}, rep h ok cs x → (∀ b, b < h.size → ok b (ty h b) → h'[b]? = h[b]?) → rep h' ok cs x
  mono : ∀ {h : Heap} {ok ok' : Fp} {cs x}, rep h ok cs x → (∀ b, b < h.size → ok b (ty h b) → ok' b (ty h b)) → rep h ok' cs x
/-- A slice that is read. -/
def Sl {α : Type} (d : Kd α) (h : Heap) (ok : Fp) (A : Option Addr) (xs : List α) : Prop :=
  ∀ i x, xs[i]? = some x → ∃ ad cs, A = some ad ∧ ad.block < h.size ∧ ok ad.block (ty h ad.block) ∧ d.rep h ok cs x ∧ At h (ad.add (i * d.sz)) cs
/-- The elements' cells, in a row. -/
def Ch {α : Type} (d : Kd α) (h : Heap) (ok : Fp) (fl : List Value) (xs : List α) : Prop :=
  fl.length = xs.length * d.sz ∧ ∀ i x, xs[i]? = some x → ∃ cs, d.rep h ok cs x ∧ ∀ j u, cs[j]? = some u → fl[i * d.sz + j]? = some u
def off1 (ok : Fp) (b : Nat) : Fp := fun b' t => ok b' t ∧ b' ≠ b
def orS (S S' : Fp) : Fp := fun b t => S b t ∨ S' b t
/-- A slice of the call's own: its row in a block of elements T (in ok); its elements lead to oi. -/
def Ow {α : Type} (d : Kd α) (T : TypeId) (h : Heap) (ok oi : Fp) (A : Option Addr) (c : Nat) (xs : List α) : Prop :=
  (xs = [] ∧ c = 0) ∨ ∃ b cur fl, A = some ⟨b, 0, none⟩ ∧ xs.length ≤ c ∧ c ≤ maxLen ∧ ok b (some T) ∧ h[b]? = some (.cells cur T (0, 0)) ∧ cur.size = c * d.sz ∧ cur.toList.take (xs.length * d.sz) = fl ∧ Ch d h (off1 oi b) fl xs

section
variable {α : Type} {d : Kd α} {h h' : Heap} {ok ok' : Fp} {A : Option Addr} {xs : List α}
theorem Sl.upd (k : Sl d h ok A xs) (hu : ∀ b, b < h.size → ok b (ty h b) → h'[b]? = h[b]?) : Sl d h' ok A xs := fun i x hx => by
  obtain ⟨ad, cs, rfl, hlt, hok, hr, hA⟩ := k i x hx
  have e := hu _ hlt hok
  refine ⟨ad, cs, rfl, ?_, by rw [ty_of_get e]; exact hok, d.upd hr hu, hA.keep (by rw [add_block]; exact e)⟩
  rcases Nat.lt_or_ge ad.block h'.size with hh | hh
  · exact hh
  · rw [Array.getElem?_eq_none hh, Array.getElem?_eq_getElem hlt] at e; cases e
theorem Sl.mono (k : Sl d h ok A xs) (hm : ∀ b, b < h.size → ok b (ty h b) → ok' b (ty h b)) : Sl d h ok' A xs := fun i x hx => by
  obtain ⟨ad, cs, rfl, hlt, hok, hr, hA⟩ := k i x hx
  exact ⟨ad, cs, rfl, hlt, hm _ hlt hok, d.mono hr hm, hA⟩
theorem Sl.ext {w w' : World} (k : Sl d w.heap ok A xs) (hx : Ext w w') : Sl d w'.heap ok A xs := k.upd fun b hb _ => hx.get hb
theorem Sl.turn {w w' : World} {S : Fp} (k : Sl d w.heap ok A xs) (hx : Upd S w w') (hd : ∀ b t, ok b t → S b t → False) : Sl d w'.heap ok A xs := k.upd fun b hb ho => hx.keep b hb (fun hs => hd _ _ ho hs)
theorem Sl.nil : Sl d h ok A ([] : List α) := fun i x hx => by simp at hx
/-- All that it leads to exists now. -/
theorem Sl.now (k : Sl d h ok A xs) : Sl d h (fun b t => ok b t ∧ b < h.size) A xs := k.mono fun b hb ho => ⟨ho, hb⟩
theorem Kd.ext {w w' : World} {cs : List Value} {x : α} (k : d.rep w.heap ok cs x) (hx : Ext w w') : d.rep w'.heap ok cs x := d.upd k fun b hb _ => hx.get hb
theorem Kd.turn {w w' : World} {S : Fp} {cs : List Value} {x : α} (k : d.rep w.heap ok cs x) (hx : Upd S w w') (hd : ∀ b t, ok b t → S b t → False) : d.rep w'.heap ok cs x := d.upd k fun b hb ho => hx.keep b hb (fun hs => hd _ _ ho hs)
/-- An element of a slice that is read. -/
theorem Sl.at_ (k : Sl d h ok A xs) {i : Int} (h0 : 0 ≤ i) (h1 : i < xs.length) (z : α) : ∃ ad cs, A = some ad ∧ d.rep h ok cs (xs.getD i.toNat z) ∧ At h (ad.add (i.toNat * d.sz)) cs := by
  have hlt : i.toNat < xs.length := by omega
  obtain ⟨ad, cs, e, _, _, hr, hA⟩ := k i.toNat _ (List.getElem?_eq_getElem hlt)
  refine ⟨ad, cs, e, ?_, hA⟩
  rw [List.getD_eq_getElem?_getD, List.getElem?_eq_getElem hlt]
  exact hr

/-! ### 15. The kinds -/
def Kd.scalar (f : α → Value) (h1 : ∀ x, (f x).oneCell' = true) : Kd α where
  sz := 1
  pos := by omega
  rep := fun _ _ cs x => cs = [f x]
  len := fun e => by subst e; rfl
  one := fun e c hc => by subst e; simp at hc; subst hc; exact h1 _
  upd := fun e _ => e
  mono := fun e _ => e
def Kd.int (k : IntKind) : Kd Int := .scalar (.int k) fun _ => rfl
def Kd.bool : Kd Bool := .scalar .bool fun _ => rfl
def Kd.pair {β : Type} (a : Kd α) (b : Kd β) : Kd (α × β) where
  sz := a.sz + b.sz
  pos := by have := a.pos; omega
  rep := fun h ok cs x => ∃ u v, cs = u ++ v ∧ a.rep h ok u x.1 ∧ b.rep h ok v x.2
  len := fun ⟨u, v, e, hu, hv⟩ => by subst e; rw [List.length_append, a.len hu, b.len hv]
  one := fun ⟨u, v, e, hu, hv⟩ c hc => by
    subst e
    rcases List.mem_append.1 hc with h | h
    · exact a.one hu c h
    · exact b.one hv c h
  upd := fun ⟨u, v, e, hu, hv⟩ hh => ⟨u, v, e, a.upd hu hh, b.upd hv hh⟩
  mono := fun ⟨u, v, e, hu, hv⟩ hh => ⟨u, v, e, a.mono hu hh, b.mono hv hh⟩
def Kd.iso {β : Type} (a : Kd α) (f : β → α) : Kd β where
  sz := a.sz
  pos := a.pos
  rep := fun h ok cs x => a.rep h ok cs (f x)
  len := fun e => a.len e
  one := fun e => a.one e
  upd := fun e hh => a.upd e hh
  mono := fun e hh => a.mono e hh
/-- A slice that is read, as a cell. -/
def Kd.sl (a : Kd α) : Kd (List α) where
  sz := 1
  pos := by omega
  rep := fun h ok cs xs => ∃ A c, cs = [.slice A xs.length c] ∧ xs.length ≤ c ∧ Sl a h ok A xs
  len := fun ⟨A, c, e, _⟩ => by subst e; rfl
  one := fun ⟨A, c, e, _⟩ x hc => by subst e; simp at hc; subst hc; rfl
  upd := fun ⟨A, c, e, hl, hs⟩ hh => ⟨A, c, e, hl, hs.upd hh⟩
  mono := fun ⟨A, c, e, hl, hs⟩ hh => ⟨A, c, e, hl, hs.mono hh⟩
theorem Ch.upd {fl : List Value} (k : Ch d h ok fl xs) (hu : ∀ b, b < h.size → ok b (ty h b) → h'[b]? = h[b]?) : Ch d h' ok fl xs := ⟨k.1, fun i x hx => by
  obtain ⟨cs, hr, hc⟩ := k.2 i x hx
  exact ⟨cs, d.upd hr hu, hc⟩⟩
theorem Ch.mono {fl : List Value} (k : Ch d h ok fl xs) (hm : ∀ b, b < h.size → ok b (ty h b) → ok' b (ty h b)) : Ch d h ok' fl xs := ⟨k.1, fun i x hx => by
  obtain ⟨cs, hr, hc⟩ := k.2 i x hx
  exact ⟨cs, d.mono hr hm, hc⟩⟩
theorem ty_cells {b : Nat} {cur : Array Value} {T : TypeId} {fr : Nat × Nat} (e : h[b]? = some (.cells cur T fr)) : ty h b = some T := by unfold ty; rw [e]
theorem lt_cells {b : Nat} {o : Obj} (e : h[b]? = some o) : b < h.size := (Array.getElem?_eq_some_iff.1 e).1
variable {T : TypeId} {c : Nat}
theorem Ow.upd {oi : Fp} (k : Ow d T h ok oi A c xs) (hu : ∀ b, b < h.size → ok b (ty h b) → h'[b]? = h[b]?) (hi : ∀ b, b < h.size → oi b (ty h b) → h'[b]? = h[b]?) : Ow d T h' ok oi A c xs := by
  rcases k with k | ⟨b, cur, fl, rfl, h1, h2, h3, h4, h5, h6, h7⟩
  · exact .inl k
  · exact .inr ⟨b, cur, fl, rfl, h1, h2, h3, (hu b (lt_cells h4) (by rw [ty_cells h4]; exact h3)).trans h4, h5, h6, h7.upd fun b' hb ho => hi b' hb ho.1⟩
theorem Ow.mono {oi oi' : Fp} (k : Ow d T h ok oi A c xs) (hm : ∀ b, b < h.size → ok b (ty h b) → ok' b (ty h b)) (hi : ∀ b, b < h.size → oi b (ty h b) → oi' b (ty h b)) : Ow d T h ok' oi' A c xs := by
  rcases k with k | ⟨b, cur, fl, rfl, h1, h2, h3, h4, h5, h6, h7⟩
  · exact .inl k
  · exact .inr ⟨b, cur, fl, rfl, h1, h2, by have := hm b (lt_cells h4) (by rw [ty_cells h4]; exact h3); rwa [ty_cells h4] at this, h4, h5, h6, h7.mono fun b' hb ho => ⟨hi b' hb ho.1, ho.2⟩⟩
variable {oi : Fp}
theorem Ow.ext {w w' : World} (k : Ow d T w.heap ok oi A c xs) (hx : Ext w w') : Ow d T w'.heap ok oi A c xs := k.upd (fun b hb _ => hx.get hb) fun b hb _ => hx.get hb
theorem Ow.turn {w w' : World} {S : Fp} (k : Ow d T w.heap ok oi A c xs) (hx : Upd S w w') (hd : ∀ b t, ok b t → S b t → False) (hi : ∀ b t, oi b t → S b t → False) : Ow d T w'.heap ok oi A c xs := k.upd (fun b hb ho => hx.keep b hb (fun hs => hd _ _ ho hs)) fun b hb ho => hx.keep b hb (fun hs => hi _ _ ho hs)
theorem Ow.len (k : Ow d T h ok oi A c xs) : xs.length ≤ c := by
  rcases k with ⟨rfl, rfl⟩ | ⟨b, cur, fl, rfl, h1, _⟩
  · simp
  · exact h1
theorem Ow.nil : Ow d T h ok oi A 0 ([] : List α) := .inl ⟨rfl, rfl⟩
theorem cellH_block {b o : Nat} {cur : Array Value} {T : TypeId} {fr : Nat × Nat} (e : h[b]? = some (.cells cur T fr)) : cellH h ⟨b, o, none⟩ = cur[o]? := by unfold cellH; rw [e]; rfl
theorem add_lit0 (b j : Nat) : (⟨b, 0, none⟩ : Addr).add j = ⟨b, j, none⟩ := by unfold Addr.add; split <;> simp_all
theorem Ow.sl (k : Ow d T h ok oi A c xs) : Sl d h (orS ok oi) A xs := by
  rcases k with ⟨rfl, rfl⟩ | ⟨b, cur, fl, rfl, h1, h2, h3, h4, h5, h6, h7⟩
  · exact Sl.nil
  · intro i x hx
    obtain ⟨cs, hr, hc⟩ := h7.2 i x hx
    refine ⟨_, cs, rfl, lt_cells h4, by rw [ty_cells h4]; exact .inl h3, d.mono hr fun b' _ ho => .inr ho.1, fun j u hu => ?_⟩
    rw [add_lit0]
    have e : ((⟨b, i * d.sz, none⟩ : Addr).add j) = ⟨b, i * d.sz + j, none⟩ := by unfold Addr.add; split <;> simp_all
    rw [e, cellH_block h4]
    have := hc j u hu
    rw [← h6, List.getElem?_take] at this
    split at this
    · simpa using this
    · cases this
/-- A slice of the call's own, as a cell. -/
def Kd.ow (a : Kd α) (T : TypeId) : Kd (List α) where
  sz := 1
  pos := by omega
  rep := fun h ok cs xs => ∃ A c, cs = [.slice A xs.length c] ∧ Ow a T h ok ok A c xs
  len := fun ⟨A, c, e, _⟩ => by subst e; rfl
  one := fun ⟨A, c, e, _⟩ x hc => by subst e; simp at hc; subst hc; rfl
  upd := fun ⟨A, c, e, hs⟩ hh => ⟨A, c, e, hs.upd hh hh⟩
  mono := fun ⟨A, c, e, hs⟩ hh => ⟨A, c, e, hs.mono hh hh⟩
/-- A row just made, all its cells told. -/
theorem Ow.of_box {b : Nat} {cs : List Value} (hb : Box h b T cs) (hok : ok b (some T)) (hlen : xs.length ≤ maxLen) (hch : Ch d h (off1 oi b) cs xs) : Ow d T h ok oi (some ⟨b, 0, none⟩) xs.length xs :=
  .inr ⟨b, cs.toArray, cs, rfl, Nat.le_refl _, hlen, hok, hb, by simp [hch.1], by simp [← hch.1], hch⟩
theorem Ch.nil : Ch d h ok [] ([] : List α) := ⟨by simp, fun i x hx => by simp at hx⟩
theorem Ch.cons {x : α} {cs fl : List Value} (hr : d.rep h ok cs x) (k : Ch d h ok fl xs) : Ch d h ok (cs ++ fl) (x :: xs) := by
  have hl := d.len hr
  refine ⟨by rw [List.length_append, List.length_cons, k.1, hl, Nat.add_mul]; omega, fun i y hy => ?_⟩
  cases i with
  | zero =>
    simp only [List.getElem?_cons_zero, Option.some.injEq] at hy
    subst hy
    refine ⟨cs, hr, fun j u hu => ?_⟩
    have := (List.getElem?_eq_some_iff.1 hu).1
    rw [Nat.zero_mul, Nat.zero_add, List.getElem?_append_left this]
    exact hu
  | succ i =>
    obtain ⟨cs', hr', hc'⟩ := k.2 i y (by simpa using hy)
    refine ⟨cs', hr', fun j u hu => ?_⟩
    rw [List.getElem?_append_right (by rw [Nat.add_mul]; omega)]
    have e : (i + 1) * d.sz + j - cs.length = i * d.sz + j := by rw [hl, Nat.add_mul]; omega
    rw [e]
    exact hc' j u hu
theorem Ch.append {ys : List α} {fl gl : List Value} (k : Ch d h ok fl xs) (k2 : Ch d h ok gl ys) : Ch d h ok (fl ++ gl) (xs ++ ys) := by
  refine ⟨by rw [List.length_append, List.length_append, k.1, k2.1, Nat.add_mul], fun i x hx => ?_⟩
  rcases Nat.lt_or_ge i xs.length with hi | hi
  · rw [List.getElem?_append_left hi] at hx
    obtain ⟨cs, hr, hc⟩ := k.2 i x hx
    refine ⟨cs, hr, fun j u hu => ?_⟩
    have hj := (List.getElem?_eq_some_iff.1 (hc j u hu)).1
    rw [List.getElem?_append_left hj]
    exact hc j u hu
  · rw [List.getElem?_append_right hi] at hx
    obtain ⟨cs, hr, hc⟩ := k2.2 _ x hx
    refine ⟨cs, hr, fun j u hu => ?_⟩
    have e : i * d.sz = xs.length * d.sz + (i - xs.length) * d.sz := by rw [← Nat.add_mul]; congr 1; omega
    rw [List.getElem?_append_right (by rw [k.1, e]; omega)]
    have e2 : i * d.sz + j - fl.length = (i - xs.length) * d.sz + j := by rw [k.1, e]; omega
    rw [e2]
    exact hc j u hu
theorem Ch.set {fl cs : List Value} {i : Nat} {y : α} (k : Ch d h ok fl xs) (hi : i < xs.length) (hr : d.rep h ok cs y) : Ch d h ok (lay fl (i * d.sz) cs) (xs.set i y) := by
  have hl := d.len hr
  have hfit : i * d.sz + cs.length ≤ fl.length := by
    rw [k.1, hl, ← Nat.succ_mul]
    exact Nat.mul_le_mul_right _ hi
  refine ⟨by rw [lay_length, List.length_set]; exact k.1, fun m x hx => ?_⟩
  by_cases e : i = m
  · subst e
    rw [List.getElem?_set_self hi] at hx
    cases hx
    refine ⟨cs, hr, fun j u hu => ?_⟩
    have hj := (List.getElem?_eq_some_iff.1 hu).1
    rw [lay_get _ _ _ hfit, if_pos ⟨by omega, by omega⟩]
    rw [show i * d.sz + j - i * d.sz = j by omega]
    exact hu
  · rw [List.getElem?_set_ne e] at hx
    obtain ⟨cs', hr', hc'⟩ := k.2 m x hx
    refine ⟨cs', hr', fun j u hu => ?_⟩
    have hj := (List.getElem?_eq_some_iff.1 hu).1
    rw [d.len hr'] at hj
    rw [lay_get _ _ _ hfit, if_neg]
    · exact hc' j u hu
    · rintro ⟨h1, h2⟩
      rw [hl] at h2
      rcases Nat.lt_or_gt_of_ne e with h3 | h3
      · have := Nat.mul_le_mul_right d.sz h3
        rw [Nat.succ_mul] at this
        omega
      · have := Nat.mul_le_mul_right d.sz h3
        rw [Nat.succ_mul] at this
        omega
end
end Go.H
