/- Walking by explicit rules, part R: hollow kinds: rows that are there, whatever stands in them. Plain theorems over any program. -/
import Derived.Test.YtnaajldlloglkaaDoorHQ
set_option linter.unusedVariables false
set_option linter.unusedSimpArgs false
namespace Go.H
open Go.RowKit
section
variable {α β : Type} {T : TypeId} {h : Heap} {ok oi : Fp} {A : Option Addr} {c n : Nat}
/-- Any n + 1 cells, whatever the element. -/
def Kd.any (α : Type) (n : Nat) : Kd α where
  sz := n + 1
  pos := by omega
  rep := fun _ _ cs _ => cs.length = n + 1 ∧ ∀ c ∈ cs, c.oneCell' = true
  len := fun e => e.1
  one := fun e => e.2
  upd := fun e _ => e
  mono := fun e _ => e
theorem Ow.conv {d d' : Kd α} {xs : List α} (hs : d.sz = d'.sz) (hr : ∀ ok cs x, d.rep h ok cs x → d'.rep h ok cs x) (k : Ow d T h ok oi A c xs) : Ow d' T h ok oi A c xs := by
  rcases k with ⟨rfl, rfl⟩ | ⟨b, cur, fl, rfl, h1, h2, h3, h4, h5, h6, h7⟩
  · exact .inl ⟨rfl, rfl⟩
  · refine .inr ⟨b, cur, fl, rfl, h1, h2, h3, h4, by rw [← hs]; exact h5, by rw [← hs]; exact h6, by rw [← hs]; exact h7.1, fun i x hx => ?_⟩
    obtain ⟨cs, hr', hc⟩ := h7.2 i x hx
    exact ⟨cs, hr _ _ _ hr', by rw [← hs]; exact hc⟩
theorem Ow.hollow {d : Kd α} {xs : List α} (hs : d.sz = n + 1) (k : Ow d T h ok oi A c xs) : Ow (Kd.any α n) T h ok oi A c xs :=
  k.conv hs fun ok cs x hr => ⟨(d.len hr).trans hs, d.one hr⟩
/-- A store of cells us into one row, all else as it was. -/
structure Stored (w w' : World) (e : TypeId) (b o : Nat) (us : List Value) : Prop where
  at_ : ∃ cur, w.heap[b]? = some (.cells cur e (0, 0)) ∧ o + us.length ≤ cur.size ∧ w'.heap[b]? = some (.cells (lay cur.toList o us).toArray e (0, 0))
  rest : ∀ b', b' ≠ b → w'.heap[b']? = w.heap[b']?
  one : ∀ u ∈ us, u.oneCell' = true
theorem Ow.any_kept {w w' : World} {e : TypeId} {b o : Nat} {us : List Value} {xs : List α} (s : Stored w w' e b o us) (k : Ow (Kd.any α n) T w.heap ok oi A c xs) : Ow (Kd.any α n) T w'.heap ok oi A c xs := by
  rcases k with ⟨rfl, rfl⟩ | ⟨b0, cur, fl, rfl, h1, h2, h3, h4, h5, h6, h7⟩
  · exact .inl ⟨rfl, rfl⟩
  · by_cases eb : b0 = b
    · subst eb
      obtain ⟨cur', c1, c2, c3⟩ := s.at_
      rw [h4] at c1
      injection c1 with c1
      injection c1 with c1 c4
      subst c1
      subst c4
      have hsz : (Kd.any α n).sz = n + 1 := rfl
      rw [hsz] at h5 h6
      have hin : xs.length * (n + 1) ≤ c * (n + 1) := Nat.mul_le_mul_right _ h1
      have hfl : fl.length = xs.length * (n + 1) := h7.1
      have hcl : cur.toList.length = c * (n + 1) := by rw [Array.length_toList]; exact h5
      have hl1 : ∀ q u, (lay cur.toList o us)[q]? = some u → q < xs.length * (n + 1) → u.oneCell' = true := by
        intro q u hu hq
        rw [lay_get us _ _ (by simpa using c2)] at hu
        split at hu
        · exact s.one u (List.mem_of_getElem? hu)
        · have hi : q / (n + 1) < xs.length := Nat.div_lt_of_lt_mul (by rw [Nat.mul_comm]; exact hq)
          obtain ⟨cs, hr, hc⟩ := h7.2 (q / (n + 1)) _ (List.getElem?_eq_getElem hi)
          have hm : q % (n + 1) < n + 1 := Nat.mod_lt _ (by omega)
          have := hc (q % (n + 1)) _ (List.getElem?_eq_getElem (by rw [hr.1]; exact hm))
          have eq : q / (n + 1) * (Kd.any α n).sz + q % (n + 1) = q := by rw [hsz, Nat.mul_comm]; exact Nat.div_add_mod q (n + 1)
          rw [eq, ← h6, List.getElem?_take, if_pos hq, hu] at this
          injection this with this
          rw [this]
          exact hr.2 _ (List.getElem_mem _)
      refine .inr ⟨b0, _, (lay cur.toList o us).take (xs.length * (n + 1)), rfl, h1, h2, h3, c3, by rw [hsz]; simp [lay_length, h5], by rw [hsz], ?_, fun i x hx => ?_⟩
      · rw [hsz, List.length_take, lay_length, hcl]; omega
      · have hi : i < xs.length := by
          rcases Nat.lt_or_ge i xs.length with z | z
          · exact z
          · rw [List.getElem?_eq_none z] at hx; cases hx
        have hi2 : i * (n + 1) + (n + 1) ≤ xs.length * (n + 1) := by rw [← Nat.succ_mul]; exact Nat.mul_le_mul_right _ hi
        refine ⟨((lay cur.toList o us).drop (i * (n + 1))).take (n + 1), ⟨?_, fun u hu => ?_⟩, fun j u hu => ?_⟩
        · rw [List.length_take, List.length_drop, lay_length, hcl]; omega
        · obtain ⟨q, hq, e1⟩ := List.getElem_of_mem hu
          have e2 := List.getElem?_eq_getElem hq
          rw [List.length_take] at hq
          rw [e1, List.getElem?_take, if_pos (by omega), List.getElem?_drop] at e2
          exact hl1 _ u e2 (by omega)
        · rw [List.getElem?_take] at hu
          split at hu
          · rw [hsz, List.getElem?_take, if_pos (by omega)]
            rw [List.getElem?_drop] at hu
            exact hu
          · cases hu
    · exact .inr ⟨b0, cur, fl, rfl, h1, h2, h3, (s.rest b0 eb).trans h4, h5, h6, h7.1, h7.2⟩
/-- What stands of a kind still stands behind a store. -/
def Kept (d : Kd α) (w w' : World) : Prop := ∀ ok cs x, d.rep w.heap ok cs x → d.rep w'.heap ok cs x
theorem Kept.scalar {f : α → Value} {h1 : ∀ x, (f x).oneCell' = true} {w w' : World} : Kept (Kd.scalar f h1) w w' := fun _ _ _ h => h
theorem Kept.pair {a : Kd α} {b : Kd β} {w w' : World} (ha : Kept a w w') (hb : Kept b w w') : Kept (.pair a b) w w' := fun ok cs x ⟨u, v, e, hu, hv⟩ => ⟨u, v, e, ha _ _ _ hu, hb _ _ _ hv⟩
theorem Kept.iso {a : Kd α} {f : β → α} {w w' : World} (ha : Kept a w w') : Kept (.iso a f) w w' := fun ok cs x h => ha _ _ _ h
theorem Kept.ow {w w' : World} {e : TypeId} {b o : Nat} {us : List Value} (s : Stored w w' e b o us) : Kept (.ow (Kd.any α n) T) w w' := fun ok cs x ⟨A, c, e, k⟩ => ⟨A, c, e, k.any_kept s⟩
/-- A row of a kind that is kept, the store being into a row of another type. -/
theorem Ow.kept {d : Kd α} {w w' : World} {e : TypeId} {b o : Nat} {us : List Value} {xs : List α} (k : Ow d T w.heap ok oi A c xs) (s : Stored w w' e b o us) (hne : T ≠ e) (hk : Kept d w w') : Ow d T w'.heap ok oi A c xs := by
  rcases k with ⟨rfl, rfl⟩ | ⟨b0, cur, fl, rfl, h1, h2, h3, h4, h5, h6, h7⟩
  · exact .inl ⟨rfl, rfl⟩
  · have eb : b0 ≠ b := fun z => by
      subst z
      obtain ⟨cur', c1, _⟩ := s.at_
      rw [h4] at c1
      injection c1 with c1
      injection c1 with _ c2
      exact hne c2
    refine .inr ⟨b0, cur, fl, rfl, h1, h2, h3, (s.rest b0 eb).trans h4, h5, h6, h7.1, fun i x hx => ?_⟩
    obtain ⟨cs, hr, hc⟩ := h7.2 i x hx
    exact ⟨cs, hk _ _ _ hr, hc⟩
end
section
variable {P : Program} {N : Nat} {Q : Exit → Act → World → Prop} {E : Env} {w : World} {ops : List Oper} {tab : Tab} {α : Type} {d : Kd α}
/-- A store into an element's cells, all else as it was. -/
theorem RW.storeElY {i : Nat} {o : Oper} {r : OT} {T0 e : TypeId} {t0 : Ti} {x z : Operand} {l li lv : List Seg3} {A : Option Addr} {ad : Addr} {c : Nat} {xs : List α} {j k : Nat} {v : Value} {y : α} (hT : TabOk P tab) (hO : Ow d e w.heap (okL l) (okL li) A c xs) (hj : j < xs.length) (z0 : α) (us : List Value)
    (hy : ∀ cs ok', d.rep w.heap ok' cs (xs.getD j z0) → k + us.length ≤ cs.length ∧ d.rep w.heap (orS ok' (okL lv)) (lay cs k us) y) (hap : allD e lv l)
    (hn : Nx0 ops E i o) (hop : o.op = .store T0 x z) (hg : tab.get T0 = some t0) (hA : A = some ad) (hx : ev E x = some (.pointer (some (addA (ad.add (j * d.sz)) k)))) (hz : ev E z = some v) (hu : v.cells = us.toArray) (hl : us.length = t0.size) (h1 : us.all Value.oneCell' = true)
    (h : ∀ w', Upd (rowS (okL l) e) w w' → (∃ b, Stored w w' e b (j * d.sz + k) us) → Ow d e w'.heap (okL l) (okL (li ++ lv)) A c (xs.set j y) → RW P N ops Q r E w') : RW P N ops Q (.one i .M r) E w := by
  obtain ⟨b, cur, fl, hA', hc, hcm, hxc, hok, hb, hcs, hfl, hch⟩ := hO.storeAt hj
  have hA2 := hA
  rw [hA'] at hA2
  cases hA2
  obtain ⟨cs, hr, hcc⟩ := hch.2 j _ (List.getElem?_eq_getElem hj)
  have hgd : xs.getD j z0 = xs[j] := by rw [List.getD_eq_getElem?_getD, List.getElem?_eq_getElem hj]; rfl
  obtain ⟨hk, hry⟩ := hy cs _ (by rw [hgd]; exact hr)
  have hcl := d.len hr
  have hin : j * d.sz + d.sz ≤ xs.length * d.sz := by rw [← Nat.succ_mul]; exact Nat.mul_le_mul_right _ hj
  have hin2 : xs.length * d.sz ≤ c * d.sz := Nat.mul_le_mul_right _ hxc
  have hp : addA ((⟨b, 0, none⟩ : Addr).add (j * d.sz)) k = ⟨b, j * d.sz + k, none⟩ := by rw [addA_eq, add_add, add_lit0]
  have hfit : j * d.sz + k + us.length ≤ cur.size := by rw [hcs]; omega
  have hs := setRow_upd (w := w) (b := b) (cs := (lay cur.toList (j * d.sz + k) us).toArray) hb
  have key : ∀ w', w' = w.setRow b (lay cur.toList (j * d.sz + k) us).toArray → Upd (rowS (okL l) e) w w' ∧ (∃ b, Stored w w' e b (j * d.sz + k) us) ∧ Ow d e w'.heap (okL l) (okL (li ++ lv)) A c (xs.set j y) := by
    rintro w' rfl
    have hupd : Upd (ownS A c) w (w.setRow b (lay cur.toList (j * d.sz + k) us).toArray) := hs.1.mono fun i' _ e' => ⟨hc, _, hA', by simpa using e'.symm⟩
    refine ⟨hO.upd_sub hupd, ⟨b, ⟨cur, hb, hfit, hs.2⟩, fun b' hn => setRow_other w b b' _ hn, fun u hu => List.all_eq_true.1 h1 u hu⟩, ?_⟩
    have hap' : ∀ b, b < w.heap.size → okL lv b (Go.H.ty w.heap b) → ownS A c b none → False := fun b hb ho hs => by
      obtain ⟨h1, h2⟩ := hO.own_ok hs
      rw [h2] at ho
      exact dis_of hap b _ ho ⟨h1, rfl⟩
    have hel : lay fl (j * d.sz + k) us = lay fl (j * d.sz) (lay cs k us) := by
      rw [← lay_lay cs fl us (j * d.sz) k hk (by have := hch.1; omega)]
      congr 1
      apply List.ext_getElem?
      intro m
      rw [lay_get cs fl _ (by have := hch.1; omega)]
      split
      · rename_i hm
        have hm2 : m - j * d.sz < cs.length := by omega
        have := hcc (m - j * d.sz) _ (List.getElem?_eq_getElem hm2)
        rw [show j * d.sz + (m - j * d.sz) = m by omega] at this
        rw [this, List.getElem?_eq_getElem hm2]
      · rfl
    have hx1 := hch.mono (ok' := off1 (orS (okL li) (okL lv)) b) fun b' _ ho => ⟨.inl ho.1, ho.2⟩
    have hr1 : d.rep w.heap (off1 (orS (okL li) (okL lv)) b) (lay cs k us) y := by
      exact d.mono hry fun b' hb' ho => by
        rcases ho with ho | ho
        · exact ⟨.inl ho.1, ho.2⟩
        · exact ⟨.inr ho, fun eb => hap' _ hb' ho ⟨hc, _, hA', eb.symm⟩⟩
    have ho : Ow d e (w.setRow b (lay cur.toList (j * d.sz + k) us).toArray).heap (okL l) (orS (okL li) (okL lv)) A c (xs.set j y) := by
      refine .inr ⟨b, _, lay fl (j * d.sz + k) us, hA', by rw [List.length_set]; exact hxc, hcm, hok, hs.2, by simp [lay_length, hcs], ?_, ?_⟩
      · rw [List.length_set, ← hfl]
        simp only [List.toList_toArray]
        exact lay_take us _ _ _ (by have := hch.1; omega)
      · rw [hel]
        exact (hx1.set hj hr1).upd fun b' _ ho => setRow_other w b b' _ ho.2
    exact ho.mono (fun b hb hh => hh) fun b hb hh => okL_append.2 hh
  obtain ⟨k1, k2, k3⟩ := key _ rfl
  refine RW.stepS hn (fun ρ hρ => ?_) (h _ k1 k2 k3)
  have := run_storeBlock (hT.get hg) (o := j * d.sz + k) hb hu hl (fun u hh => List.all_eq_true.1 h1 u hh) hfit
  unfold execOp
  simp only [hop, hρ x _ hx, hρ z _ hz, Instr.storeAt, Instr.sureAddr, Sem.run_bind, Sem.run_pure, Result.andThen_ok, hp, this]
end
end Go.H
namespace Go.H
open Go.RowKit
theorem Kd.any_lay {α : Type} {n k : Nat} {us cs : List Value} {x y : α} {h h' : Heap} {ok ok' : Fp} (hr : (Kd.any α n).rep h ok cs x) (hk : k + us.length ≤ n + 1) (h1 : us.all Value.oneCell' = true) : k + us.length ≤ cs.length ∧ (Kd.any α n).rep h' ok' (lay cs k us) y := by
  have hl : cs.length = n + 1 := hr.1
  refine ⟨by omega, by rw [lay_length]; exact hl, fun c hc => ?_⟩
  obtain ⟨q, hq, e⟩ := List.getElem_of_mem hc
  have e2 := List.getElem?_eq_getElem hq
  rw [e, lay_get us cs k (by omega)] at e2
  split at e2
  · exact List.all_eq_true.1 h1 c (List.mem_of_getElem? e2)
  · exact hr.2 c (List.mem_of_getElem? e2)
end Go.H
namespace Go.H
open Go.RowKit
section
variable {P : Program} {N : Nat} {Q : Exit → Act → World → Prop} {E : Env} {w : World} {ops : List Oper} {tab : Tab} {α : Type} {d : Kd α}
theorem RW.storeElY0 {i : Nat} {o : Oper} {r : OT} {T0 e : TypeId} {t0 : Ti} {x z : Operand} {l li lv : List Seg3} {A : Option Addr} {ad : Addr} {c : Nat} {xs : List α} {j : Nat} {v : Value} {y : α} (hT : TabOk P tab) (hO : Ow d e w.heap (okL l) (okL li) A c xs) (hj : j < xs.length) (z0 : α) (us : List Value)
    (hy : ∀ cs ok', d.rep w.heap ok' cs (xs.getD j z0) → 0 + us.length ≤ cs.length ∧ d.rep w.heap (orS ok' (okL lv)) (lay cs 0 us) y) (hap : allD e lv l)
    (hn : Nx0 ops E i o) (hop : o.op = .store T0 x z) (hg : tab.get T0 = some t0) (hA : A = some ad) (hx : ev E x = some (.pointer (some (ad.add (j * d.sz))))) (hz : ev E z = some v) (hu : v.cells = us.toArray) (hl : us.length = t0.size) (h1 : us.all Value.oneCell' = true)
    (h : ∀ w', Upd (rowS (okL l) e) w w' → (∃ b, Stored w w' e b (j * d.sz + 0) us) → Ow d e w'.heap (okL l) (okL (li ++ lv)) A c (xs.set j y) → RW P N ops Q r E w') : RW P N ops Q (.one i .M r) E w :=
  RW.storeElY hT hO hj z0 us hy hap hn hop hg hA (by rw [addA_zero]; exact hx) hz hu hl h1 h
end
end Go.H
