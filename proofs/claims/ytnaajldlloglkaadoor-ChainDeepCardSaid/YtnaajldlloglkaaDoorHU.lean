/- Walking by explicit rules, part U: a row whose elements' rows lie apart from each other. Plain theorems over any program. -/
import Derived.Test.YtnaajldlloglkaaDoorHT
set_option linter.unusedVariables false
set_option linter.unusedSimpArgs false
namespace Go.H
open Go.RowKit
section
variable {α β : Type} {d dR : Kd α} {h : Heap} {ok ok' oi : Fp} {A : Option Addr} {c : Nat} {xs : List α} {T S : TypeId} {z0 : α}
def inU (U : Nat → Prop) (S : TypeId) : Fp := fun b t => U b ∧ t = some S
/-- A slice of the call's own whose elements lead to rows of type S, each element to its own. -/
def OwB (d : Kd α) (T S : TypeId) (h : Heap) (ok oi : Fp) (A : Option Addr) (c : Nat) (xs : List α) : Prop :=
  (xs = [] ∧ c = 0) ∨ ∃ b cur fl, A = some ⟨b, 0, none⟩ ∧ xs.length ≤ c ∧ c ≤ maxLen ∧ ok b (some T) ∧ h[b]? = some (.cells cur T (0, 0)) ∧ cur.size = c * d.sz ∧ cur.toList.take (xs.length * d.sz) = fl ∧ fl.length = xs.length * d.sz ∧
    ∃ U : Nat → Nat → Prop, (∀ i j b, i < j → U i b → U j b → False) ∧ (∀ i b, U i b → oi b (some S) ∧ b < h.size) ∧
      ∀ i x, xs[i]? = some x → ∃ cs, d.rep h (inU (U i) S) cs x ∧ ∀ j u, cs[j]? = some u → fl[i * d.sz + j]? = some u
theorem OwB.ow (hne : S ≠ T) (k : OwB d T S h ok oi A c xs) : Ow d T h ok oi A c xs := by
  rcases k with k | ⟨b, cur, fl, e, h1, h2, h3, h4, h5, h6, h7, U, u1, u2, u3⟩
  · exact .inl k
  · refine .inr ⟨b, cur, fl, e, h1, h2, h3, h4, h5, h6, h7, fun i x hx => ?_⟩
    obtain ⟨cs, hr, hc⟩ := u3 i x hx
    refine ⟨cs, d.mono hr fun b' hb ho => ⟨?_, fun eb => ?_⟩, hc⟩
    · rw [ho.2]; exact (u2 i b' ho.1).1
    · subst eb
      have := ho.2
      rw [ty_cells h4] at this
      exact hne (Option.some.inj this).symm
theorem OwB.upd {h' : Heap} (k : OwB d T S h ok oi A c xs) (hsz : h.size ≤ h'.size) (hu : ∀ b, b < h.size → ok b (ty h b) → h'[b]? = h[b]?) (hi : ∀ b, b < h.size → oi b (ty h b) → h'[b]? = h[b]?) : OwB d T S h' ok oi A c xs := by
  rcases k with k | ⟨b, cur, fl, e, h1, h2, h3, h4, h5, h6, h7, U, u1, u2, u3⟩
  · exact .inl k
  · refine .inr ⟨b, cur, fl, e, h1, h2, h3, (hu b (lt_cells h4) (by rw [ty_cells h4]; exact h3)).trans h4, h5, h6, h7, U, u1, fun i b' hb => ⟨(u2 i b' hb).1, by have := (u2 i b' hb).2; omega⟩, fun i x hx => ?_⟩
    obtain ⟨cs, hr, hc⟩ := u3 i x hx
    exact ⟨cs, d.upd hr fun b' hb ho => hi b' hb (by rw [ho.2]; exact (u2 i b' ho.1).1), hc⟩
theorem OwB.mono (k : OwB d T S h ok oi A c xs) {oi' : Fp} (hm : ∀ b, b < h.size → ok b (ty h b) → ok' b (ty h b)) (hi : ∀ b, b < h.size → oi b (some S) → oi' b (some S)) : OwB d T S h ok' oi' A c xs := by
  rcases k with k | ⟨b, cur, fl, e, h1, h2, h3, h4, h5, h6, h7, U, u1, u2, u3⟩
  · exact .inl k
  · exact .inr ⟨b, cur, fl, e, h1, h2, by have := hm b (lt_cells h4) (by rw [ty_cells h4]; exact h3); rwa [ty_cells h4] at this, h4, h5, h6, h7, U, u1, fun i b' hb => ⟨hi b' (u2 i b' hb).2 (u2 i b' hb).1, (u2 i b' hb).2⟩, u3⟩
theorem OwB.nil : OwB d T S h ok oi A 0 ([] : List α) := .inl ⟨rfl, rfl⟩
theorem OwB.len (k : OwB d T S h ok oi A c xs) : xs.length ≤ c := by
  rcases k with ⟨rfl, rfl⟩ | ⟨b, cur, fl, e, h1, _⟩
  · simp
  · exact h1
/-- The elements below a place are of a better kind, each leads to its own. -/
def OwPartB (d : Kd α) (S : TypeId) (h : Heap) (lo m : Nat) (A : Option Addr) (xs : List α) (z : α) (i : Nat) : Prop :=
  ∃ U : Nat → Nat → Prop, (∀ i j b, i < j → U i b → U j b → False) ∧ (∀ j b, U j b → j < i ∧ lo ≤ b ∧ b < m) ∧
    ∀ j, j < i → ∃ ad cs, A = some ad ∧ d.rep h (inU (U j) S) cs (xs.getD j z) ∧ At h (ad.add (j * d.sz)) cs
theorem OwPartB.zero {lo m : Nat} : OwPartB d S h lo m A xs z0 0 := ⟨fun _ _ => False, fun _ _ _ _ h => h.elim, fun _ _ h => h.elim, fun j hj => by omega⟩
theorem OwPartB.ext {w w' : World} {i lo m : Nat} (k : OwPartB d S w.heap lo m A xs z0 i) (hx : Ext w w') : OwPartB d S w'.heap lo m A xs z0 i := by
  obtain ⟨U, u1, u2, u3⟩ := k
  refine ⟨U, u1, u2, fun j hj => ?_⟩
  obtain ⟨ad, cs, e, hr, hA⟩ := u3 j hj
  exact ⟨ad, cs, e, d.upd hr fun b hb _ => hx.get hb, hA.ext hx⟩
theorem OwPartB.up {i lo m m' : Nat} (k : OwPartB d S h lo m A xs z0 i) (hm : m ≤ m') : OwPartB d S h lo m' A xs z0 i := by
  obtain ⟨U, u1, u2, u3⟩ := k
  exact ⟨U, u1, fun j b hb => by have := u2 j b hb; omega, u3⟩
theorem OwPartB.store {w w' : World} {e : TypeId} {i j k lo m : Nat} {us : List Value} {y : α} {l : List Seg3} (hp : OwPartB d S w.heap lo m A xs z0 i) (hu : Upd (rowS (okL l) e) w w') (hX : Laid d w w' e A j k us) (hij : i ≤ j) (hno : S ≠ e) : OwPartB d S w'.heap lo m A (xs.set j y) z0 i := by
  obtain ⟨U, u1, u2, u3⟩ := hp
  refine ⟨U, u1, u2, fun q hq => ?_⟩
  obtain ⟨ad, cs, ea, hr, ha⟩ := u3 q hq
  refine ⟨ad, cs, ea, ?_, ha.other hX ea (by omega) (d.len hr)⟩
  have : (xs.set j y).getD q z0 = xs.getD q z0 := by
    rw [List.getD_eq_getElem?_getD, List.getD_eq_getElem?_getD, List.getElem?_set_ne (by omega)]
  rw [this]
  exact d.upd hr fun b hb ho => hu.keep b hb fun hs => by
    have e2 := hs.2
    rw [ho.2] at e2
    exact hno (Option.some.inj e2)
theorem OwPartB.snoc {i lo m n1 n2 : Nat} (hp : OwPartB d S h lo m A xs z0 i) (h1 : m ≤ n1) (h0 : lo ≤ n1) (h2 : m ≤ n2) {ad : Addr} {cs : List Value} (hA : A = some ad) (hr : d.rep h (okL [(n1, some n2, some S)]) cs (xs.getD i z0)) (ha : At h (ad.add (i * d.sz)) cs) : OwPartB d S h lo n2 A xs z0 (i + 1) := by
  obtain ⟨U, u1, u2, u3⟩ := hp
  refine ⟨fun j b => U j b ∨ (j = i ∧ n1 ≤ b ∧ b < n2), fun p q b hpq hp hq => ?_, fun j b hb => ?_, fun j hj => ?_⟩
  · rcases hp with hp | hp <;> rcases hq with hq | hq
    · exact u1 p q b hpq hp hq
    · have := u2 p b hp; omega
    · have := u2 q b hq; omega
    · omega
  · rcases hb with hb | hb
    · have := u2 j b hb; omega
    · omega
  · by_cases cj : j = i
    · subst cj
      refine ⟨ad, cs, hA, d.mono hr fun b _ ho => ?_, ha⟩
      rcases ho with ⟨o1, o2, o3⟩ | ho
      · exact ⟨.inr ⟨rfl, o1, o2⟩, o3⟩
      · exact ho.elim
    · obtain ⟨ad', cs', e, hr', hA'⟩ := u3 j (by omega)
      exact ⟨ad', cs', e, d.mono hr' fun b _ ho => ⟨.inl ho.1, ho.2⟩, hA'⟩
theorem Ow.upgradeB {i lo m : Nat} (k : Ow dR T h ok oi A c xs) (hsz : dR.sz = d.sz) (hp : OwPartB d S h lo m A xs z0 i) (hi : xs.length ≤ i) (hm : m ≤ h.size) : OwB d T S h ok (okL [(lo, some m, some S)]) A c xs := by
  rcases k with k | ⟨b, cur, fl, rfl, h1, h2, h3, h4, h5, h6, h7⟩
  · exact .inl k
  · obtain ⟨U, u1, u2, u3⟩ := hp
    refine .inr ⟨b, cur, fl, rfl, h1, h2, h3, h4, by rw [← hsz]; exact h5, by rw [← hsz]; exact h6, by rw [← hsz]; exact h7.1, U, u1, fun j b' hb => ⟨.inl ⟨(u2 j b' hb).2.1, (u2 j b' hb).2.2, rfl⟩, by have := (u2 j b' hb).2.2; omega⟩, fun j x hx => ?_⟩
    have hj : j < xs.length := by
      rcases Nat.lt_or_ge j xs.length with c | c
      · exact c
      · rw [List.getElem?_eq_none c] at hx; cases hx
    obtain ⟨ad, cs, e, hr, ha⟩ := u3 j (by omega)
    cases e
    have hg : xs.getD j z0 = x := by rw [List.getD_eq_getElem?_getD, hx]; rfl
    rw [hg] at hr
    refine ⟨cs, hr, fun q u hu => ?_⟩
    have := ha q u hu
    have hq : q < cs.length := by
      rcases Nat.lt_or_ge q cs.length with c | c
      · exact c
      · rw [List.getElem?_eq_none c] at hu; cases hu
    have hcl := d.len hr
    have hin : j * d.sz + d.sz ≤ xs.length * d.sz := by rw [← Nat.succ_mul]; exact Nat.mul_le_mul_right _ hj
    rw [add_lit0, show (⟨b, j * d.sz, none⟩ : Addr).add q = ⟨b, j * d.sz + q, none⟩ by unfold Addr.add; split <;> simp_all, cellH_lit h4] at this
    rw [← h6, hsz, List.getElem?_take, if_pos (by omega)]
    simpa using this
end
section
variable {α β : Type} {d : Kd α} {de : Kd β} {A : Option Addr} {c : Nat} {xs : List α} {T S : TypeId} {l l' li li' : List Seg3} {w w' : World} {z0 : α}
theorem OwB.ext (k : OwB d T S w.heap (okL l) (okL li) A c xs) (hx : Ext w w') : OwB d T S w'.heap (okL l) (okL li) A c xs := k.upd hx.size (fun b hb _ => hx.get hb) fun b hb _ => hx.get hb
theorem OwB.turnL {e : TypeId} (k : OwB d T S w.heap (okL l) (okL li) A c xs) (hx : Upd (rowS (okL l') e) w w') (hd : allD e l l') (hi : allD e li l') : OwB d T S w'.heap (okL l) (okL li) A c xs :=
  k.upd hx.size (fun b hb ho => hx.keep b hb fun hs => dis_of hd b _ ho hs) fun b hb ho => hx.keep b hb fun hs => dis_of hi b _ ho hs
theorem OwB.turnB {e : TypeId} {n : Nat} {cs : List Value} (k : OwB d T S w.heap (okL l) (okL li) A c xs) (hx : Upd (fun j _ => j = n) w w') (hb : Box w.heap n e cs) (hn : notIn n e l) (hi : notIn n e li) : OwB d T S w'.heap (okL l) (okL li) A c xs :=
  k.upd hx.size (fun b hb' ho => hx.keep b hb' (fun e => by subst e; rw [hb.ty] at ho; exact notIn_no hn ho)) fun b hb' ho => hx.keep b hb' (fun e => by subst e; rw [hb.ty] at ho; exact notIn_no hi ho)
theorem OwB.sub (k : OwB d T S w.heap (okL l) (okL li) A c xs) (h : subL l l') (hi : subL li li') : OwB d T S w.heap (okL l') (okL li') A c xs := k.mono (fun _ _ ho => okL_sub h ho) fun _ _ ho => okL_sub hi ho
theorem OwB.close (k : OwB d T S w.heap (okL l) (okL li) A c xs) : OwB d T S w.heap (okL (closeS w.heap.size l)) (okL (closeS w.heap.size li)) A c xs := k.mono (fun _ hb ho => closeS_ok hb ho) fun _ hb ho => closeS_ok hb ho
theorem At.same {h : Heap} {a : Addr} {cs ds : List Value} (h1 : At h a cs) (h2 : At h a ds) (hl : cs.length = ds.length) : cs = ds := by
  refine List.ext_getElem hl fun i a1 a2 => ?_
  have e1 := h1 i _ (List.getElem?_eq_getElem a1)
  have e2 := h2 i _ (List.getElem?_eq_getElem a2)
  rw [e1] at e2
  exact Option.some.inj e2
/-- The row of an element, apart from the others'; and what a store into it leaves. -/
theorem OwB.inner {lo hi : Nat} (k : OwB d T S w.heap (okL l) (okL [(lo, some hi, some S)]) A c xs) (hne : S ≠ T) {i : Nat} (hi' : i < xs.length) {ad : Addr} (hA : A = some ad) {cs : List Value} (hl : cs.length = d.sz) (hc : At w.heap (ad.add (i * d.sz)) cs) {A1 : Option Addr} {c1 : Nat} {ys : List β}
    (hop : ∀ ok, d.rep w.heap ok cs (xs.getD i z0) → Ow de S w.heap ok ok A1 c1 ys) (hfl : ∀ h h' ok ok' cs x, de.rep h ok cs x → de.rep h' ok' cs x) (hy : 0 < ys.length) :
    ∃ b1, Ow de S w.heap (okL [(b1, some (b1 + 1), some S)]) (okL []) A1 c1 ys ∧ lo ≤ b1 ∧ b1 < hi ∧ b1 < w.heap.size ∧
      ∀ w' ys' x', Upd (rowS (okL [(b1, some (b1 + 1), some S)]) S) w w' → Ow de S w'.heap (okL [(b1, some (b1 + 1), some S)]) (okL []) A1 c1 ys' → (∀ ok, Ow de S w'.heap ok ok A1 c1 ys' → d.rep w'.heap ok cs x') → OwB d T S w'.heap (okL l) (okL [(lo, some hi, some S)]) A c (xs.set i x') := by
  rcases k with ⟨rfl, rfl⟩ | ⟨b, cur, fl, e, h1, h2, h3, h4, h5, h6, h7, U, u1, u2, u3⟩
  · simp at hi'
  · subst hA
    cases e
    obtain ⟨cs2, hr, hcc⟩ := u3 i _ (List.getElem?_eq_getElem hi')
    have hin : i * d.sz + d.sz ≤ xs.length * d.sz := by rw [← Nat.succ_mul]; exact Nat.mul_le_mul_right _ hi'
    have at2 : At w.heap ((⟨b, 0, none⟩ : Addr).add (i * d.sz)) cs2 := fun q u hu => by
      have hq : q < cs2.length := by
        rcases Nat.lt_or_ge q cs2.length with c | c
        · exact c
        · rw [List.getElem?_eq_none c] at hu; cases hu
      rw [d.len hr] at hq
      have := hcc q u hu
      rw [← h6, List.getElem?_take, if_pos (by omega)] at this
      rw [add_lit0, show (⟨b, i * d.sz, none⟩ : Addr).add q = ⟨b, i * d.sz + q, none⟩ by unfold Addr.add; split <;> simp_all, cellH_lit h4]
      simpa using this
    have ecs : cs = cs2 := hc.same at2 (by rw [hl, d.len hr])
    subst ecs
    have hgd : xs.getD i z0 = xs[i] := by rw [List.getD_eq_getElem?_getD, List.getElem?_eq_getElem hi']; rfl
    have ho := hop _ (by rw [hgd]; exact hr)
    have ho2 := ho
    rcases ho with ⟨rfl, _⟩ | ⟨b1, cur1, fl1, rfl, g1, g2, g3, g4, g5, g6, g7⟩
    · simp at hy
    have hub := u2 i b1 g3.1
    have hlo : lo ≤ b1 ∧ b1 < hi := by
      rcases hub.1 with ⟨o1, o2, _⟩ | o
      · exact ⟨o1, o2⟩
      · exact o.elim
    refine ⟨b1, .inr ⟨b1, cur1, fl1, rfl, g1, g2, .inl ⟨Nat.le_refl _, Nat.lt_succ_self _, rfl⟩, g4, g5, g6, g7.1, fun q y hq => ?_⟩, hlo.1, hlo.2, hub.2, fun w' ys' x' hx hO hmk => ?_⟩
    · obtain ⟨ds, hd, hdd⟩ := g7.2 q y hq
      exact ⟨ds, hfl _ _ _ _ _ _ hd, hdd⟩
    · have hb1 : ∀ b', b' < w.heap.size → b' ≠ b1 ∨ ty w.heap b' ≠ some S → w'.heap[b']? = w.heap[b']? := fun b' hb hor => hx.keep b' hb fun hs => by
        rcases hs.1 with ⟨o1, o2, _⟩ | o
        · rcases hor with z | z
          · simp only at o1 o2; omega
          · exact z hs.2
        · exact o.elim
      have hbT : b ≠ b1 := fun z => by
        subst z
        rw [h4] at g4
        injection g4 with g4
        injection g4 with _ g4
        exact hne g4.symm
      refine .inr ⟨b, cur, fl, rfl, by rw [List.length_set]; exact h1, h2, h3, (hb1 b (lt_cells h4) (.inl hbT)).trans h4, h5, by rw [List.length_set]; exact h6, by rw [List.length_set]; exact h7, U, u1, fun j b' hb => ⟨(u2 j b' hb).1, by have := (u2 j b' hb).2; have := hx.size; omega⟩, fun j x hxj => ?_⟩
      by_cases cj : j = i
      · subst cj
        rw [List.getElem?_set_self hi'] at hxj
        cases hxj
        refine ⟨cs, hmk _ ?_, hcc⟩
        rcases hO with ⟨rfl, rfl⟩ | ⟨b2, cur2, fl2, e2, k1, k2, k3, k4, k5, k6, k7⟩
        · exact .inl ⟨rfl, rfl⟩
        · cases e2
          refine .inr ⟨b1, cur2, fl2, rfl, k1, k2, ⟨g3.1, rfl⟩, k4, k5, k6, k7.1, fun q y hq => ?_⟩
          obtain ⟨ds, hd, hdd⟩ := k7.2 q y hq
          exact ⟨ds, hfl _ _ _ _ _ _ hd, hdd⟩
      · rw [List.getElem?_set_ne (fun z => cj z.symm)] at hxj
        obtain ⟨ds, hd, hdd⟩ := u3 j x hxj
        refine ⟨ds, d.upd hd fun b' hb ho => hb1 b' hb (.inl fun z => ?_), hdd⟩
        subst z
        rcases Nat.lt_or_ge i j with q | q
        · exact u1 i j b' q g3.1 ho.1
        · exact u1 j i b' (by omega) ho.1 g3.1
end
end Go.H
