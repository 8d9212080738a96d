/- Walking by explicit rules, part F: append, stores into a row of the call's own. Plain theorems over any program. -/
import Derived.Test.YtnaajldlloglkaaDoorHE
import Derived.Maps.AppendAt
set_option linter.unusedVariables false
set_option linter.unusedSimpArgs false
namespace Go.H
open Go.RowKit

/-- The block that a slice of the call's own may write. -/
def ownS (A : Option Addr) (c : Nat) : Fp := fun b _ => 0 < c ∧ ∃ ad, A = some ad ∧ ad.block = b
def newS (n : Nat) (T : TypeId) : Fp := fun b t => n ≤ b ∧ t = some T

section
variable {P : Program} {tab : Tab}
theorem run_append_none (w : World) (t ty e : TypeId) (i : TypeInfo) (ht : P.underlying t = some (.slice e)) (hi : P.info? e = some i) (A B : Option Addr) (n c cB : Nat) (hn : n ≤ c) :
    (Builtin.append_ #[t, t] ty #[.slice A n c, .slice B 0 cB]).run P w = .ok (.slice A n c) w := by
  cases A <;> cases B <;> simp [Builtin.append_, run_underlying ht, sizeOf, typeInfo, hi, Builtin.lenOf, Builtin.firstCells, loadCells, loadCellsFrom, storeCells, hn]

theorem Ch.one {α : Type} {d : Kd α} {h : Heap} {ok : Fp} {ycs : List Value} {ys : List α} (hys : Ch d h ok ycs ys) : ∀ u ∈ ycs, u.oneCell' = true := by
  intro u hu
  obtain ⟨j, hj⟩ := List.getElem?_of_mem hu
  have hjl := (List.getElem?_eq_some_iff.1 hj).1
  rw [hys.1] at hjl
  have hp := d.pos
  have hdm := Nat.div_add_mod j d.sz
  have hq : j / d.sz < ys.length := Nat.div_lt_of_lt_mul (by rw [Nat.mul_comm]; exact hjl)
  obtain ⟨cs, hr, hc⟩ := hys.2 (j / d.sz) _ (List.getElem?_eq_getElem hq)
  have hm := Nat.mod_lt j hp
  have hcl : j % d.sz < cs.length := by rw [d.len hr]; exact hm
  have := hc (j % d.sz) _ (List.getElem?_eq_getElem hcl)
  rw [Nat.mul_comm, hdm, hj] at this
  cases this
  exact d.one hr _ (List.getElem_mem hcl)

theorem run_append_ow {α : Type} {d : Kd α} (hT : TabOk P tab) {T e ty : TypeId} {t te : Ti} (hg : tab.get T = some t) (hti : t.ti = .slice e) (hge : tab.get e = some te) (hd : d.sz = te.size)
    {w : World} {ok oi oky : Fp} {A : Option Addr} {c : Nat} {xs ys : List α} (hO : Ow d e w.heap ok oi A c xs) {B : Option Addr} {cB : Nat} {ycs : List Value} (hB : 0 < ys.length → ∃ ad, B = some ad ∧ At w.heap ad ycs) (hys : Ch d w.heap oky ycs ys)
    (hap : ∀ b, b < w.heap.size → oky b (Go.H.ty w.heap b) → ownS A c b none → False) (h63 : xs.length + ys.length ≤ maxLen) (hby : (xs.length + ys.length) * te.bytes ≤ 140737488355328) :
    ∃ A' c' w', (Builtin.append_ #[T, T] ty #[.slice A xs.length c, .slice B ys.length cB]).run P w = .ok (.slice A' (xs.length + ys.length) c') w' ∧
      Upd (ownS A c) w w' ∧ Ow d e w'.heap (orS ok (newS w.heap.size e)) (orS oi oky) A' c' (xs ++ ys) := by
  have hke := hT.get hge
  obtain ⟨dT, hdT, hoT⟩ := (hT.get hg).desc
  rw [hti] at hoT
  cases hoT
  obtain ⟨i, hi, hs, hb, hz⟩ := hke.info
  have hzs : (ofCells te.ti te.zero).cells.size = te.size := by rw [ofCells_cells hke]; simp [hke.len]
  have hone := hys.one
  have hyl : ycs.length = ys.length * i.size := by rw [hs, ← hd]; exact hys.1
  have h63' : ((xs.length + ys.length : Nat) : Int) ≤ 9223372036854775807 := by simp only [maxLen] at h63; omega
  rcases Nat.eq_zero_or_pos ys.length with hy0 | hypos
  · obtain rfl : ys = [] := List.eq_nil_of_length_eq_zero hy0
    refine ⟨A, c, w, run_append_none w T ty e i hdT hi A B _ c cB hO.len, Upd.refl _ w, ?_⟩
    rw [List.append_nil]
    exact hO.mono (fun b _ ho => .inl ho) fun b _ ho => .inl ho
  · obtain ⟨ad, rfl, hAd⟩ := hB hypos
    have hnews : ∀ j u, ycs[j]? = some u → w.cell? (ad.add j) = some u := fun j u hu => hAd j u hu
    -- the row is made anew
    have made : ∀ (c0 : Nat) (fl : List Value), Ch d w.heap oi fl xs →
        Ow d e (w.drew.alloc (.cells (fl.toArray ++ ycs.toArray ++ Builtin.zeroCells (ofCells te.ti te.zero).cells (grownCap w (xs.length + ys.length) c0 e - (xs.length + ys.length))) e)).heap (orS ok (newS w.heap.size e)) (orS oi oky) (some ⟨w.heap.size, 0, none⟩) (grownCap w (xs.length + ys.length) c0 e) (xs ++ ys) := by
      intro c0 fl hfl
      have hfll : fl.length = xs.length * i.size := by rw [hs, ← hd]; exact hfl.1
      have hge' := grownCap_ge w (xs.length + ys.length) c0 e
      have hcm : grownCap w (xs.length + ys.length) c0 e ≤ maxLen := grownCap_le_maxLen w _ c0 e h63
      refine .inr ⟨w.heap.size, _, _, rfl, by rw [List.length_append]; exact hge', hcm, .inr ⟨Nat.le_refl _, rfl⟩, heap_alloc_new w.drew _, ?_, rfl, ?_⟩
      · simp only [Array.size_append, List.size_toArray, size_zeroCells, hzs, hfll, hyl, hs, hd, ← Nat.add_mul]
        congr 1
        omega
      · have hx1 := hfl.mono (ok' := off1 (orS oi oky) w.heap.size) fun b hb ho => ⟨.inl ho, by omega⟩
        have hy1 := hys.mono (ok' := off1 (orS oi oky) w.heap.size) fun b hb ho => ⟨.inr ho, by omega⟩
        have hall := hx1.append hy1
        have hlen : (fl ++ ycs).length = (xs ++ ys).length * d.sz := hall.1
        have htake : ((fl.toArray ++ ycs.toArray ++ Builtin.zeroCells (ofCells te.ti te.zero).cells (grownCap w (xs.length + ys.length) c0 e - (xs.length + ys.length))).toList.take ((xs ++ ys).length * d.sz)) = fl ++ ycs := by
          simp only [Array.toList_append, List.append_assoc]
          rw [← List.append_assoc, ← hlen]
          exact List.take_left
        rw [htake]
        exact hall.upd fun b hb _ => (Ext.trans (Ext.drew w) (Ext.alloc w.drew _)).get hb
    have grow : ∀ (base : Addr) (c0 : Nat) (fl : List Value), Ch d w.heap oi fl xs → (∀ j u, fl[j]? = some u → w.cell? (base.add j) = some u) → c0 < xs.length + ys.length →
        ∃ c' w', (Builtin.append_ #[T, T] ty #[.slice (some base) xs.length c0, .slice (some ad) ys.length cB]).run P w = .ok (.slice (some ⟨w.heap.size, 0, none⟩) (xs.length + ys.length) c') w' ∧
          Ext w w' ∧ Ow d e w'.heap (orS ok (newS w.heap.size e)) (orS oi oky) (some ⟨w.heap.size, 0, none⟩) c' (xs ++ ys) := by
      intro base c0 fl hfl hold hlt
      have hfll : fl.length = xs.length * i.size := by rw [hs, ← hd]; exact hfl.1
      have hr := run_append_grow (P := P) w T ty e i (ofCells te.ti te.zero) hdT hi hz base xs.length c0 fl hfll hold ad ys.length cB ycs hyl hnews hlt h63' (growslice_fits hlt (by rw [hb]; exact hby))
      exact ⟨_, _, hr, Ext.trans (Ext.drew w) (Ext.alloc w.drew _), made c0 fl hfl⟩
    rcases hO with ⟨rfl, rfl⟩ | ⟨b, cur, fl, rfl, h1, h2, h3, h4, h5, h6, h7⟩
    · cases A with
      | none =>
        have hr := run_append_nil (P := P) w T ty e i (ofCells te.ti te.zero) hdT hi hz ad ys.length cB ycs hyl hnews hypos (by simpa using h63') (by rw [hb]; simpa using (show ys.length * te.bytes ≤ 281474976710656 by have := hby; simp only [List.length_nil, Nat.zero_add] at this; omega))
        have hm := made 0 [] Ch.nil
        simp only [List.length_nil, Nat.zero_add, List.nil_append, Array.empty_append] at hm ⊢
        exact ⟨_, _, _, hr, Ext.upd (Ext.trans (Ext.drew w) (Ext.alloc w.drew _)), hm⟩
      | some base =>
        obtain ⟨c', w', hr, hx, ho⟩ := grow base 0 [] Ch.nil (fun j u hu => by simp at hu) (by simpa using hypos)
        exact ⟨_, c', w', hr, hx.upd, ho⟩
    · have hold : ∀ j u, fl[j]? = some u → w.cell? ((⟨b, 0, none⟩ : Addr).add j) = some u := fun j u hu => by
        rw [add_lit0, cell_H, cellH_block h4]
        rw [← h6, List.getElem?_take] at hu
        split at hu
        · simpa using hu
        · cases hu
      have hbl := lt_cells h4
      by_cases hroom : xs.length + ys.length ≤ c
      · have hfll : fl.length = xs.length * d.sz := h7.1
        have hfit : xs.length * i.size + ycs.length ≤ cur.size := by
          rw [hyl, hs, h5, ← hd, ← Nat.add_mul]
          exact Nat.mul_le_mul_right _ hroom
        have hr := run_append_room (P := P) w T ty e i hdT hi b xs.length c cur h4 ad ys.length cB ycs hyl hnews hone hroom hfit
        have hcpos : 0 < c := by omega
        refine ⟨_, _, _, hr, ⟨rfl, rfl, rfl, by simp, fun k _ hk => setRow_other w b k _ (fun e => hk ⟨hcpos, _, rfl, e.symm⟩)⟩, .inr ⟨b, _, fl ++ ycs, rfl, by rw [List.length_append]; exact hroom, h2, .inl h3, setRow_heap w b cur _ e _ h4, ?_, ?_, ?_⟩⟩
        · simp only [List.size_toArray, List.length_append, List.length_take, List.length_drop, Array.length_toList]
          omega
        · rw [hs, ← hd, h6]
          simp only [List.length_append, Nat.add_mul]
          rw [show xs.length * d.sz + ys.length * d.sz = (fl ++ ycs).length by rw [List.length_append, hfll, hys.1]]
          exact List.take_left
        · have hx1 := h7.mono (ok' := off1 (orS oi oky) b) fun b' _ ho => ⟨.inl ho.1, ho.2⟩
          have hy1 := hys.mono (ok' := off1 (orS oi oky) b) fun b' hb' ho => ⟨.inr ho, fun eb => hap b' hb' ho ⟨hcpos, _, rfl, eb.symm⟩⟩
          exact (hx1.append hy1).upd fun b' _ ho => setRow_other w b b' _ ho.2
      · obtain ⟨c', w', hr, hx, ho⟩ := grow ⟨b, 0, none⟩ c fl (h7.mono fun b' _ ho => ho.1) hold (by omega)
        exact ⟨_, c', w', hr, hx.upd, ho⟩

/-! ### 16. The rules -/
variable {N : Nat} {Q : Exit → Act → World → Prop} {E : Env} {w : World} {ops : List Oper} {α : Type} {d : Kd α}
theorem run_builtin2 {o : Oper} {b : Builtin} {x y : Operand} {T1 T2 : TypeId} {u v : Value} {ρ : Operand → Value} (hρ : Knows E ρ) (hop : o.op = .call ⟨.builtin b, #[x, y], #[T1, T2]⟩) (hx : ev E x = some u) (hy : ev E y = some v) : ∃ cs, execOp ρ o = builtin b #[T1, T2] o.type cs #[u, v] := by
  refine ⟨#[x, y].map (fun | .const _ => true | _ => false), ?_⟩
  unfold execOp
  simp only [hop, resolve, List.map_toArray, List.map_cons, List.map_nil, hρ x _ hx, hρ y _ hy]
  rfl
/-- append(l, ys...), l a row of the call's own. -/
theorem RW.append {i dd : Nat} {o : Oper} {r : OT} {T e : TypeId} {t te : Ti} {x y : Operand} {ok oi oky : Fp} {A B : Option Addr} {c cB n : Nat} {xs ys : List α} {ycs : List Value} (hT : TabOk P tab) (hO : Ow d e w.heap ok oi A c xs) (hys : Ch d w.heap oky ycs ys) (hB : 0 < ys.length → ∃ ad, B = some ad ∧ At w.heap ad ycs)
    (hap : ∀ b, b < w.heap.size → oky b (Go.H.ty w.heap b) → ownS A c b none → False) (h63 : xs.length + ys.length ≤ maxLen) (hby : (xs.length + ys.length) * te.bytes ≤ 140737488355328)
    (hn : Nx ops N E i o dd) (hop : o.op = .call ⟨.builtin .append, #[x, y], #[T, T]⟩) (hg : tab.get T = some t) (hti : t.ti = .slice e) (hge : tab.get e = some te) (hd : d.sz = te.size) (hx : ev E x = some (.slice A xs.length c)) (hy : ev E y = some (.slice B n cB)) (hlen : n = ys.length)
    (h : ∀ A' c' w', Upd (ownS A c) w w' → Ow d e w'.heap (orS ok (newS w.heap.size e)) (orS oi oky) A' c' (xs ++ ys) → RW P N ops Q r ((dd, (.slice A' (xs ++ ys).length c')) :: E) w') : RW P N ops Q (.one i .M r) E w := by
  subst hlen
  obtain ⟨A', c', w', hr, hu, ho⟩ := run_append_ow (ty := o.type) hT hg hti hge hd hO (B := B) (cB := cB) hB hys hap h63 hby
  refine RW.stepM hn (fun ρ hρ => ?_) (h A' c' w' hu ho)
  obtain ⟨cs, hcs⟩ := run_builtin2 (b := .append) hρ hop hx hy
  rw [hcs]
  unfold builtin
  simp only [Sem.run_bind, hr, Result.andThen_ok, List.length_append]
  rfl
/-- append(l, y): the one element stands in a block of its own. -/
theorem RW.append1 {i dd : Nat} {o : Oper} {r : OT} {T e : TypeId} {t te : Ti} {x y : Operand} {ok oi oky : Fp} {A : Option Addr} {c b : Nat} {xs : List α} {v : α} {ycs : List Value} (hT : TabOk P tab) (hO : Ow d e w.heap ok oi A c xs) (hb : Box w.heap b e ycs) (hv : d.rep w.heap oky ycs v)
    (hap : ∀ b, b < w.heap.size → oky b (Go.H.ty w.heap b) → ownS A c b none → False) (h63 : xs.length + 1 ≤ maxLen) (hby : (xs.length + 1) * te.bytes ≤ 140737488355328)
    (hn : Nx ops N E i o dd) (hop : o.op = .call ⟨.builtin .append, #[x, y], #[T, T]⟩) (hg : tab.get T = some t) (hti : t.ti = .slice e) (hge : tab.get e = some te) (hd : d.sz = te.size) (hx : ev E x = some (.slice A xs.length c)) (hy : ev E y = some (.slice (some ⟨b, 0, none⟩) 1 1))
    (h : ∀ A' c' w', Upd (ownS A c) w w' → Ow d e w'.heap (orS ok (newS w.heap.size e)) (orS oi oky) A' c' (xs ++ [v]) → RW P N ops Q r ((dd, (.slice A' (xs ++ [v]).length c')) :: E) w') : RW P N ops Q (.one i .M r) E w := by
  have hc : Ch d w.heap oky (ycs ++ []) [v] := Ch.cons hv Ch.nil
  rw [List.append_nil] at hc
  exact RW.append hT hO hc (fun _ => ⟨_, rfl, by have := hb.at 0; simpa using this⟩) hap h63 hby hn hop hg hti hge hd hx hy rfl h
/-- 'l[i].f = v': a part of an element of a row of the call's own; the element with its new part is of the kind. -/
theorem Ow.storeAt {e : TypeId} {h : Heap} {ok oi : Fp} {A : Option Addr} {c : Nat} {xs : List α} (hO : Ow d e h ok oi A c xs) {j : Nat} (hj : j < xs.length) : ∃ b cur fl, A = some ⟨b, 0, none⟩ ∧ 0 < c ∧ c ≤ maxLen ∧ xs.length ≤ c ∧ ok b (some e) ∧ h[b]? = some (.cells cur e (0, 0)) ∧ cur.size = c * d.sz ∧ cur.toList.take (xs.length * d.sz) = fl ∧ Ch d h (off1 oi b) fl xs := by
  rcases hO with ⟨rfl, rfl⟩ | ⟨b, cur, fl, rfl, h1, h2, h3, h4, h5, h6, h7⟩
  · simp at hj
  · exact ⟨b, cur, fl, rfl, by omega, h2, h1, h3, h4, h5, h6, h7⟩
theorem lay_take : ∀ (us cs : List Value) (o n : Nat), o + us.length ≤ n → (lay cs o us).take n = lay (cs.take n) o us
  | [], cs, o, n, _ => rfl
  | u :: r, cs, o, n, h => by
    simp only [List.length_cons] at h
    rw [lay, lay, lay_take r _ _ _ (by omega), List.take_set]
theorem lay_lay : ∀ (us cs vs : List Value) (o k : Nat), k + vs.length ≤ us.length → o + us.length ≤ cs.length → lay (lay cs o us) (o + k) vs = lay cs o (lay us k vs) := by
  intro us cs vs o k h1 h2
  apply List.ext_getElem?
  intro j
  rw [lay_get vs _ _ (by rw [lay_length]; omega), lay_get us cs o h2, lay_get (lay us k vs) cs o (by rw [lay_length]; exact h2), lay_length]
  by_cases h3 : o ≤ j ∧ j < o + us.length
  · rw [if_pos h3, if_pos h3, lay_get vs us k h1]
    by_cases h4 : o + k ≤ j ∧ j < o + k + vs.length
    · rw [if_pos h4, if_pos (by omega)]
      congr 1
      omega
    · rw [if_neg h4, if_neg (by omega)]
  · rw [if_neg (by omega), if_neg h3, if_neg h3]
/-- A store into element j's cells from cell k on, the element's cells then being of the kind (y). -/
theorem RW.storeEl {i : Nat} {o : Oper} {r : OT} {T0 e : TypeId} {t0 : Ti} {x z : Operand} {ok oi okv : Fp} {A : Option Addr} {ad : Addr} {c : Nat} {xs : List α} {j k : Nat} {v : Value} {y : α} (hT : TabOk P tab) (hO : Ow d e w.heap ok oi A c xs) (hj : j < xs.length) (z0 : α) (us : List Value)
    (hy : ∀ cs ok', d.rep w.heap ok' cs (xs.getD j z0) → k + us.length ≤ cs.length ∧ d.rep w.heap (orS ok' okv) (lay cs k us) y) (hap : ∀ b, b < w.heap.size → okv b (Go.H.ty w.heap b) → ownS A c b none → False)
    (hn : Nx0 ops E i o) (hop : o.op = .store T0 x z) (hg : tab.get T0 = some t0) (hA : A = some ad) (hx : ev E x = some (.pointer (some (addA (ad.add (j * d.sz)) k)))) (hz : ev E z = some v) (hu : v.cells = us.toArray) (hl : us.length = t0.size) (h1 : us.all Value.oneCell' = true)
    (h : ∀ w', Upd (ownS A c) w w' → Ow d e w'.heap ok (orS oi okv) A c (xs.set j y) → RW P N ops Q r E w') : RW P N ops Q (.one i .M r) E w := by
  obtain ⟨b, cur, fl, hA', hc, hcm, hxc, hok, hb, hcs, hfl, hch⟩ := hO.storeAt hj
  have hA2 := hA
  rw [hA'] at hA2
  cases hA2
  subst hA'
  obtain ⟨cs, hr, hcc⟩ := hch.2 j _ (List.getElem?_eq_getElem hj)
  have hgd : xs.getD j z0 = xs[j] := by rw [List.getD_eq_getElem?_getD, List.getElem?_eq_getElem hj]; rfl
  obtain ⟨hk, hry⟩ := hy cs _ (by rw [hgd]; exact hr)
  have hcl := d.len hr
  have hfll : fl.length = xs.length * d.sz := hch.1
  have hin : j * d.sz + d.sz ≤ xs.length * d.sz := by rw [← Nat.succ_mul]; exact Nat.mul_le_mul_right _ hj
  have hin2 : xs.length * d.sz ≤ c * d.sz := Nat.mul_le_mul_right _ hxc
  have hp : addA ((⟨b, 0, none⟩ : Addr).add (j * d.sz)) k = ⟨b, j * d.sz + k, none⟩ := by rw [addA_eq, add_add, add_lit0]
  have hfit : j * d.sz + k + us.length ≤ cur.size := by rw [hcs]; omega
  have hs := setRow_upd (w := w) (b := b) (cs := (lay cur.toList (j * d.sz + k) us).toArray) hb
  have hupd : Upd (ownS (some ⟨b, 0, none⟩) c) w (w.setRow b (lay cur.toList (j * d.sz + k) us).toArray) := hs.1.mono fun i' _ e' => ⟨hc, _, rfl, by simpa using e'.symm⟩
  refine RW.stepS hn (fun ρ hρ => ?_) (h _ hupd (.inr ⟨b, _, lay fl (j * d.sz + k) us, rfl, by rw [List.length_set]; exact hxc, hcm, hok, hs.2, by simp [lay_length, hcs], ?_, ?_⟩))
  · have := run_storeBlock (hT.get hg) (o := j * d.sz + k) hb hu hl (fun u hh => List.all_eq_true.1 h1 u hh) hfit
    unfold execOp
    simp only [hop, hρ x _ hx, hρ z _ hz, Instr.storeAt, Instr.sureAddr, Sem.run_bind, Sem.run_pure, Result.andThen_ok, hp, this]
  · rw [List.length_set, ← hfl]
    simp only [List.toList_toArray]
    exact lay_take us _ _ _ (by omega)
  · have hel : lay fl (j * d.sz + k) us = lay fl (j * d.sz) (lay cs k us) := by
      rw [← lay_lay cs fl us (j * d.sz) k hk (by omega)]
      congr 1
      apply List.ext_getElem?
      intro m
      rw [lay_get cs fl _ (by omega)]
      split
      · rename_i hm
        have hm2 : m - j * d.sz < cs.length := by omega
        have := hcc (m - j * d.sz) _ (List.getElem?_eq_getElem hm2)
        rw [show j * d.sz + (m - j * d.sz) = m by omega] at this
        rw [this, List.getElem?_eq_getElem hm2]
      · rfl
    rw [hel]
    have hx1 := hch.mono (ok' := off1 (orS oi okv) b) fun b' _ ho => ⟨.inl ho.1, ho.2⟩
    have hr1 : d.rep w.heap (off1 (orS oi okv) b) (lay cs k us) y := by
      exact d.mono hry fun b' hb' ho => by
        rcases ho with ho | ho
        · exact ⟨.inl ho.1, ho.2⟩
        · exact ⟨.inr ho, fun eb => hap _ hb' ho ⟨hc, _, rfl, eb.symm⟩⟩
    exact (hx1.set hj hr1).upd fun b' _ ho => setRow_other w b b' _ ho.2
end
end Go.H
