/- Walking by explicit rules, part Q: a row of which the elements below a place are of a better kind; stores that tell what stands. Plain theorems over any program. -/
import Derived.Test.YtnaajldlloglkaaDoorHP
set_option linter.unusedVariables false
set_option linter.unusedSimpArgs false
namespace Go.H
open Go.RowKit
section
variable {α : Type} {d : Kd α} {h : Heap} {ok ok' : Fp} {A : Option Addr} {xs : List α} {T : TypeId} {z0 : α}
/-- What a store of cells us from cell k of element j on left in a row. -/
def Laid {α : Type} (d : Kd α) (w w' : World) (e : TypeId) (A : Option Addr) (j k : Nat) (us : List Value) : Prop :=
  ∃ b cur, A = some ⟨b, 0, none⟩ ∧ w.heap[b]? = some (.cells cur e (0, 0)) ∧ j * d.sz + k + us.length ≤ cur.size ∧ w'.heap[b]? = some (.cells (lay cur.toList (j * d.sz + k) us).toArray e (0, 0))
def OwPart (d : Kd α) (h : Heap) (ok : Fp) (A : Option Addr) (xs : List α) (z : α) (i : Nat) : Prop :=
  ∀ j, j < i → ∃ ad cs, A = some ad ∧ d.rep h ok cs (xs.getD j z) ∧ At h (ad.add (j * d.sz)) cs
theorem OwPart.zero : OwPart d h ok A xs z0 0 := fun j hj => by omega
theorem OwPart.ext {w w' : World} {i : Nat} (k : OwPart d w.heap ok A xs z0 i) (hx : Ext w w') : OwPart d w'.heap ok A xs z0 i := fun j hj => by
  obtain ⟨ad, cs, e, hr, hA⟩ := k j hj
  exact ⟨ad, cs, e, d.upd hr fun b hb _ => hx.get hb, hA.ext hx⟩
theorem OwPart.mono {i : Nat} (k : OwPart d h ok A xs z0 i) (hm : ∀ b, b < h.size → ok b (ty h b) → ok' b (ty h b)) : OwPart d h ok' A xs z0 i := fun j hj => by
  obtain ⟨ad, cs, e, hr, hA⟩ := k j hj
  exact ⟨ad, cs, e, d.mono hr hm, hA⟩
theorem cellH_lit {h : Heap} {b o : Nat} {cur : Array Value} (hb : h[b]? = some (.cells cur T (0, 0))) : cellH h ⟨b, o, none⟩ = cur[o]? := by
  unfold cellH
  rw [hb]
  simp [Addr.spot]
theorem At.other {w w' : World} {e : TypeId} {j k m : Nat} {us cs : List Value} {ad : Addr} (hX : Laid d w w' e A j k us) (hA : A = some ad) (hm : m < j) (hc : cs.length = d.sz) (ha : At w.heap (ad.add (m * d.sz)) cs) : At w'.heap (ad.add (m * d.sz)) cs := by
  obtain ⟨b, cur, e1, h1, h2, h3⟩ := hX
  rw [hA] at e1
  cases e1
  intro q u hu
  have := ha q u hu
  have hq : q < cs.length := by
    rcases Nat.lt_or_ge q cs.length with c | c
    · exact c
    · rw [List.getElem?_eq_none c] at hu; cases hu
  have hmj : m * d.sz + d.sz ≤ j * d.sz := by rw [← Nat.succ_mul]; exact Nat.mul_le_mul_right _ hm
  rw [add_lit0, show (⟨b, m * d.sz, none⟩ : Addr).add q = ⟨b, m * d.sz + q, none⟩ by unfold Addr.add; split <;> simp_all] at this ⊢
  rw [cellH_lit h1] at this
  rw [cellH_lit h3]
  rw [List.getElem?_toArray, lay_get us _ _ (by simpa using h2), if_neg (by omega)]
  simpa using this
theorem At.here {w w' : World} {e : TypeId} {j k : Nat} {us cs : List Value} {ad : Addr} (hX : Laid d w w' e A j k us) (hA : A = some ad) (hk : k + us.length ≤ cs.length) (ha : At w.heap (ad.add (j * d.sz)) cs) : At w'.heap (ad.add (j * d.sz)) (lay cs k us) := by
  obtain ⟨b, cur, e1, h1, h2, h3⟩ := hX
  rw [hA] at e1
  cases e1
  intro q u hu
  rw [lay_get us cs k hk] at hu
  rw [add_lit0, show (⟨b, j * d.sz, none⟩ : Addr).add q = ⟨b, j * d.sz + q, none⟩ by unfold Addr.add; split <;> simp_all]
  rw [cellH_lit h3, List.getElem?_toArray, lay_get us _ _ (by simpa using h2)]
  by_cases c : k ≤ q ∧ q < k + us.length
  · rw [if_pos c] at hu
    rw [if_pos (by omega), show j * d.sz + q - (j * d.sz + k) = q - k by omega]
    exact hu
  · rw [if_neg c] at hu
    rw [if_neg (by omega)]
    have := ha q u hu
    rw [add_lit0, show (⟨b, j * d.sz, none⟩ : Addr).add q = ⟨b, j * d.sz + q, none⟩ by unfold Addr.add; split <;> simp_all, cellH_lit h1] at this
    simpa using this
theorem OwPart.store {w w' : World} {e : TypeId} {i j k : Nat} {us : List Value} {y : α} {l : List Seg3} (hp : OwPart d w.heap ok A xs z0 i) (hu : Upd (rowS (okL l) e) w w') (hX : Laid d w w' e A j k us) (hij : i ≤ j) (hno : ∀ b, ok b (some e) → False) : OwPart d w'.heap ok A (xs.set j y) z0 i := fun m hm => by
  obtain ⟨ad, cs, ea, hr, ha⟩ := hp m hm
  refine ⟨ad, cs, ea, ?_, ha.other hX ea (by omega) (d.len hr)⟩
  have : (xs.set j y).getD m z0 = xs.getD m z0 := by
    rw [List.getD_eq_getElem?_getD, List.getD_eq_getElem?_getD, List.getElem?_set_ne (by omega)]
  rw [this]
  exact d.upd hr fun b hb ho => hu.keep b hb fun hs => by
    have e2 := hs.2
    rw [e2] at ho
    exact hno b ho
theorem OwPart.snoc {i : Nat} (hp : OwPart d h ok A xs z0 i) {ad : Addr} {cs : List Value} (hA : A = some ad) (hr : d.rep h ok cs (xs.getD i z0)) (ha : At h (ad.add (i * d.sz)) cs) : OwPart d h ok A xs z0 (i + 1) := fun j hj => by
  by_cases c : j = i
  · subst c; exact ⟨ad, cs, hA, hr, ha⟩
  · exact hp j (by omega)
theorem Ow.upgrade {dR : Kd α} {oi : Fp} {c i : Nat} (k : Ow dR T h ok oi A c xs) (hsz : dR.sz = d.sz) (hp : OwPart d h ok' A xs z0 i) (hi : xs.length ≤ i) (hno : ∀ b, ok' b (some T) → False) : Ow d T h ok ok' A c xs := by
  rcases k with ⟨rfl, rfl⟩ | ⟨b, cur, fl, rfl, h1, h2, h3, h4, h5, h6, h7⟩
  · exact .inl ⟨rfl, rfl⟩
  · refine .inr ⟨b, cur, fl, rfl, h1, h2, h3, h4, by rw [← hsz]; exact h5, by rw [← hsz]; exact h6, by rw [← hsz]; exact h7.1, fun j x hx => ?_⟩
    have hj : j < xs.length := by
      rcases Nat.lt_or_ge j xs.length with c | c
      · exact c
      · rw [List.getElem?_eq_none c] at hx; cases hx
    obtain ⟨ad, cs, e, hr, ha⟩ := hp j (by omega)
    cases e
    have hg : xs.getD j z0 = x := by rw [List.getD_eq_getElem?_getD, hx]; rfl
    rw [hg] at hr
    refine ⟨cs, d.mono hr fun b' hb' ho => ⟨ho, fun eb => ?_⟩, fun q u hu => ?_⟩
    · subst eb
      rw [ty_cells h4] at ho
      exact hno _ ho
    · have := ha q u hu
      have hq : q < cs.length := by
        rcases Nat.lt_or_ge q cs.length with c | c
        · exact c
        · rw [List.getElem?_eq_none c] at hu; cases hu
      have hcl := d.len hr
      have hin : j * d.sz + d.sz ≤ xs.length * d.sz := by rw [← Nat.succ_mul]; exact Nat.mul_le_mul_right _ hj
      rw [add_lit0, show (⟨b, j * d.sz, none⟩ : Addr).add q = ⟨b, j * d.sz + q, none⟩ by unfold Addr.add; split <;> simp_all, cellH_lit h4] at this
      rw [← h6, hsz, List.getElem?_take, if_pos (by omega)]
      simpa using this
end
section
variable {P : Program} {N : Nat} {Q : Exit → Act → World → Prop} {E : Env} {w : World} {ops : List Oper} {tab : Tab} {α : Type} {d : Kd α}
/-- A store into an element's cells that tells the row's cells, too. -/
theorem RW.storeElX {i : Nat} {o : Oper} {r : OT} {T0 e : TypeId} {t0 : Ti} {x z : Operand} {l li lv : List Seg3} {A : Option Addr} {ad : Addr} {c : Nat} {xs : List α} {j k : Nat} {v : Value} {y : α} (hT : TabOk P tab) (hO : Ow d e w.heap (okL l) (okL li) A c xs) (hj : j < xs.length) (z0 : α) (us : List Value)
    (hy : ∀ cs ok', d.rep w.heap ok' cs (xs.getD j z0) → k + us.length ≤ cs.length ∧ d.rep w.heap (orS ok' (okL lv)) (lay cs k us) y) (hap : allD e lv l)
    (hn : Nx0 ops E i o) (hop : o.op = .store T0 x z) (hg : tab.get T0 = some t0) (hA : A = some ad) (hx : ev E x = some (.pointer (some (addA (ad.add (j * d.sz)) k)))) (hz : ev E z = some v) (hu : v.cells = us.toArray) (hl : us.length = t0.size) (h1 : us.all Value.oneCell' = true)
    (h : ∀ w', Upd (rowS (okL l) e) w w' → Laid d w w' e A j k us → Ow d e w'.heap (okL l) (okL (li ++ lv)) A c (xs.set j y) → RW P N ops Q r E w') : RW P N ops Q (.one i .M r) E w := by
  obtain ⟨b, cur, fl, hA', hc, hcm, hxc, hok, hb, hcs, hfl, hch⟩ := hO.storeAt hj
  have hA2 := hA
  rw [hA'] at hA2
  cases hA2
  obtain ⟨cs, hr, hcc⟩ := hch.2 j _ (List.getElem?_eq_getElem hj)
  have hgd : xs.getD j z0 = xs[j] := by rw [List.getD_eq_getElem?_getD, List.getElem?_eq_getElem hj]; rfl
  obtain ⟨hk, hry⟩ := hy cs _ (by rw [hgd]; exact hr)
  have hcl := d.len hr
  have hin : j * d.sz + d.sz ≤ xs.length * d.sz := by rw [← Nat.succ_mul]; exact Nat.mul_le_mul_right _ hj
  have hin2 : xs.length * d.sz ≤ c * d.sz := Nat.mul_le_mul_right _ hxc
  have hp : addA ((⟨b, 0, none⟩ : Addr).add (j * d.sz)) k = ⟨b, j * d.sz + k, none⟩ := by rw [addA_eq, add_add, add_lit0]
  have hfit : j * d.sz + k + us.length ≤ cur.size := by rw [hcs]; omega
  have hs := setRow_upd (w := w) (b := b) (cs := (lay cur.toList (j * d.sz + k) us).toArray) hb
  have key : ∀ w', w' = w.setRow b (lay cur.toList (j * d.sz + k) us).toArray → Upd (rowS (okL l) e) w w' ∧ Laid d w w' e A j k us ∧ Ow d e w'.heap (okL l) (okL (li ++ lv)) A c (xs.set j y) := by
    rintro w' rfl
    have hupd : Upd (ownS A c) w (w.setRow b (lay cur.toList (j * d.sz + k) us).toArray) := hs.1.mono fun i' _ e' => ⟨hc, _, hA', by simpa using e'.symm⟩
    refine ⟨hO.upd_sub hupd, ⟨b, cur, hA', hb, hfit, hs.2⟩, ?_⟩
    have hap' : ∀ b, b < w.heap.size → okL lv b (Go.H.ty w.heap b) → ownS A c b none → False := fun b hb ho hs => by
      obtain ⟨h1, h2⟩ := hO.own_ok hs
      rw [h2] at ho
      exact dis_of hap b _ ho ⟨h1, rfl⟩
    have hel : lay fl (j * d.sz + k) us = lay fl (j * d.sz) (lay cs k us) := by
      rw [← lay_lay cs fl us (j * d.sz) k hk (by have := hch.1; omega)]
      congr 1
      apply List.ext_getElem?
      intro m
      rw [lay_get cs fl _ (by have := hch.1; omega)]
      split
      · rename_i hm
        have hm2 : m - j * d.sz < cs.length := by omega
        have := hcc (m - j * d.sz) _ (List.getElem?_eq_getElem hm2)
        rw [show j * d.sz + (m - j * d.sz) = m by omega] at this
        rw [this, List.getElem?_eq_getElem hm2]
      · rfl
    have hx1 := hch.mono (ok' := off1 (orS (okL li) (okL lv)) b) fun b' _ ho => ⟨.inl ho.1, ho.2⟩
    have hr1 : d.rep w.heap (off1 (orS (okL li) (okL lv)) b) (lay cs k us) y := by
      exact d.mono hry fun b' hb' ho => by
        rcases ho with ho | ho
        · exact ⟨.inl ho.1, ho.2⟩
        · exact ⟨.inr ho, fun eb => hap' _ hb' ho ⟨hc, _, hA', eb.symm⟩⟩
    have ho : Ow d e (w.setRow b (lay cur.toList (j * d.sz + k) us).toArray).heap (okL l) (orS (okL li) (okL lv)) A c (xs.set j y) := by
      refine .inr ⟨b, _, lay fl (j * d.sz + k) us, hA', by rw [List.length_set]; exact hxc, hcm, hok, hs.2, by simp [lay_length, hcs], ?_, ?_⟩
      · rw [List.length_set, ← hfl]
        simp only [List.toList_toArray]
        exact lay_take us _ _ _ (by have := hch.1; omega)
      · rw [hel]
        exact (hx1.set hj hr1).upd fun b' _ ho => setRow_other w b b' _ ho.2
    exact ho.mono (fun b hb hh => hh) fun b hb hh => okL_append.2 hh
  obtain ⟨k1, k2, k3⟩ := key _ rfl
  refine RW.stepS hn (fun ρ hρ => ?_) (h _ k1 k2 k3)
  have := run_storeBlock (hT.get hg) (o := j * d.sz + k) hb hu hl (fun u hh => List.all_eq_true.1 h1 u hh) hfit
  unfold execOp
  simp only [hop, hρ x _ hx, hρ z _ hz, Instr.storeAt, Instr.sureAddr, Sem.run_bind, Sem.run_pure, Result.andThen_ok, hp, this]
end
end Go.H
namespace Go.H
open Go.RowKit
theorem Ow.short {α : Type} {d : Kd α} {T : TypeId} {h : Heap} {ok oi : Fp} {A : Option Addr} {c : Nat} {xs : List α} (k : Ow d T h ok oi A c xs) : xs.length ≤ maxLen := by
  rcases k with ⟨rfl, rfl⟩ | ⟨b, cur, fl, rfl, h1, h2, _⟩
  · exact Nat.zero_le _
  · omega
end Go.H
