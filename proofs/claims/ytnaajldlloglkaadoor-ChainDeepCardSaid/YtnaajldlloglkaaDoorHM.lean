/- Walking by explicit rules, part M: the larger and the less of two numbers; a row of zeros; a row's end cleared. Plain theorems over any program. -/
import Derived.Test.YtnaajldlloglkaaDoorHK
set_option linter.unusedVariables false
set_option linter.unusedSimpArgs false
namespace Go.H
open Go.RowKit
def imax (a b : Int) : Int := if b > a then b else a
def imin (a b : Int) : Int := if b < a then b else a
theorem sl_none {α : Type} {d : Kd α} {h : Heap} {ok : Fp} {A : Option Addr} {xs : List α} (k : Sl d h ok A xs) (hA : A.isNone = true) : xs = [] := by
  cases xs with
  | nil => rfl
  | cons x r =>
    obtain ⟨ad, cs, e, _⟩ := k 0 x rfl
    rw [e] at hA
    cases hA
theorem take_rep_len {α : Type} {z : α} {xs : List α} {j : Nat} (h : j ≤ xs.length) : (xs.take j ++ List.replicate (xs.length - j) z).length = xs.length := by
  rw [List.length_append, List.length_take, List.length_replicate]; omega
theorem zeros_eq (z : List Value) (n : Nat) : (Builtin.zeroCells z.toArray n).toList = rowZero z n := by
  unfold Builtin.zeroCells
  rw [Array.toList_map, Array.toList_range]
  simpa using rowZero_eq z n
theorem rowZero_len (z : List Value) : ∀ n, (rowZero z n).length = n * z.length
  | 0 => by simp [rowZero]
  | n + 1 => by simp only [rowZero, List.length_append, rowZero_len z n]; rw [Nat.succ_mul]; omega
theorem rowZero_one {z : List Value} (hz : ∀ u ∈ z, u.oneCell' = true) : ∀ n, ∀ u ∈ rowZero z n, u.oneCell' = true
  | 0, u, h => by simp [rowZero] at h
  | n + 1, u, h => by
    simp only [rowZero, List.mem_append] at h
    rcases h with h | h
    · exact hz u h
    · exact rowZero_one hz n u h
section
variable {α : Type} {d : Kd α} {h : Heap} {ok oi : Fp} {A : Option Addr} {c : Nat} {xs : List α} {T : TypeId}
theorem Ch.zeros {z : List Value} {z0 : α} (hr : d.rep h ok z z0) : ∀ n, Ch d h ok (rowZero z n) (List.replicate n z0)
  | 0 => Ch.nil
  | n + 1 => by
    rw [List.replicate_succ]
    exact Ch.cons hr (Ch.zeros hr n)
theorem Ch.take {fl : List Value} (k : Ch d h ok fl xs) (n : Nat) : Ch d h ok (fl.take ((xs.take n).length * d.sz)) (xs.take n) := by
  have hl : (xs.take n).length ≤ xs.length := by rw [List.length_take]; omega
  have hm : (xs.take n).length * d.sz ≤ xs.length * d.sz := Nat.mul_le_mul_right _ hl
  refine ⟨by rw [List.length_take, k.1]; omega, fun i x hx => ?_⟩
  have hi : i < (xs.take n).length := (List.getElem?_eq_some_iff.1 hx).1
  have hx' : xs[i]? = some x := by
    rw [List.getElem?_take] at hx
    split at hx
    · exact hx
    · cases hx
  obtain ⟨cs, h1, h2⟩ := k.2 i x hx'
  refine ⟨cs, h1, fun j u hu => ?_⟩
  have hj : j < cs.length := (List.getElem?_eq_some_iff.1 hu).1
  rw [d.len h1] at hj
  have hb : i * d.sz + d.sz ≤ (xs.take n).length * d.sz := by rw [← Nat.succ_mul]; exact Nat.mul_le_mul_right _ hi
  rw [List.getElem?_take, if_pos (by omega)]
  exact h2 j u hu
/-- The beginning of a row of the call's own. -/
theorem Ow.take (k : Ow d T h ok oi A c xs) (n : Nat) : Ow d T h ok oi A c (xs.take n) := by
  rcases k with ⟨rfl, rfl⟩ | ⟨b, cur, fl, rfl, h1, h2, h3, h4, h5, h6, h7⟩
  · exact .inl ⟨by simp, rfl⟩
  · have hl : (xs.take n).length ≤ xs.length := by rw [List.length_take]; omega
    have hm : (xs.take n).length * d.sz ≤ xs.length * d.sz := Nat.mul_le_mul_right _ hl
    refine .inr ⟨b, cur, fl.take ((xs.take n).length * d.sz), rfl, by omega, h2, h3, h4, h5, ?_, h7.take n⟩
    rw [← h6, List.take_take, Nat.min_eq_left hm]
end
section
variable {P : Program} {N : Nat} {Q : Exit → Act → World → Prop} {E : Env} {w : World} {ops : List Oper} {tab : Tab} {α : Type} {d : Kd α}
/-- max(x, y), min(x, y). -/
theorem RW.maxmin {i dd : Nat} {o : Oper} {r : OT} {bt : Builtin} {x y : Operand} {T1 T2 : TypeId} {k : IntKind} {a b v : Int} (hn : Nx ops N E i o dd) (hop : o.op = .call ⟨.builtin bt, #[x, y], #[T1, T2]⟩) (hx : ev E x = some (.int k a)) (hy : ev E y = some (.int k b))
    (hv : (match bt with | .max => some (imax a b) | .min => some (imin a b) | _ => none) = some v) (h : RW P N ops Q r ((dd, .int k v) :: E) w) : RW P N ops Q (.one i .W r) E w :=
  RW.stepW hn (fun ρ hρ w' => by
    obtain ⟨cs, hcs⟩ := run_builtin2 (b := bt) hρ hop hx hy
    rw [hcs]
    cases bt <;> simp only at hv <;> try (cases hv; done)
    · cases hv
      simp [builtin, Builtin.max_, Builtin.max2, imax]
    · cases hv
      simp [builtin, Builtin.min_, Builtin.min2, imin]) h
/-- 'x[j:]'. -/
theorem RW.sliceFrom {i dd : Nat} {o : Oper} {r : OT} {T e : TypeId} {x y : Operand} {t te : Ti} {A : Option Addr} {xs : List α} {c : Nat} {k : IntKind} {j : Int} (hT : TabOk P tab) (h0 : 0 ≤ j) (h1 : j ≤ xs.length) (hc : xs.length ≤ c) (hn : Nx ops N E i o dd) (hop : o.op = .slice T x (some y) none none) (hg : tab.get T = some t) (hti : t.ti = .slice e) (hge : tab.get e = some te) (hx : ev E x = some (.slice A xs.length c)) (hy : ev E y = some (.int k j))
    (h : RW P N ops Q r ((dd, .slice (if c = j.toNat then A else A.map (·.add (j.toNat * te.size))) (xs.length - j.toNat) (c - j.toNat)) :: E) w) : RW P N ops Q (.one i .W r) E w :=
  RW.stepW hn (fun ρ hρ w' => by
    obtain ⟨d, hd, ho⟩ := (hT.get hg).desc
    rw [hti] at ho
    cases ho
    unfold execOp
    simp [hop, hρ x _ hx, hρ y _ hy, Instr.sliceAt, Instr.slice, Instr.sliceBounds, Instr.sliceBound, asIntOf, underlying, hd, h0, h1, (hT.get hge).run_sizeOf]) h
theorem RW.stepM0 {i : Nat} {o : Oper} {r : OT} {v : Value} {w1 : World} (hn : Nx0 ops E i o) (hrun : ∀ ρ, Knows E ρ → (execOp ρ o).run P w = .ok (.value v) w1) (h : RW P N ops Q r E w1) : RW P N ops Q (.one i .M r) E w := fun hp a ha => by
  refine ⟨o, hn.op, ?_⟩
  rw [wantE_sound hn.want ha]
  simp only [if_true]
  unfold Oper.wp
  rw [hrun _ ha.knows]
  have : a.put o.dst v = a := by rw [hn.dst]; rfl
  show wpOrd P ops Q r (a.put o.dst v) w1
  rw [this]
  exact h hp _ ha
theorem Ow.clear {T : TypeId} {ok oi : Fp} {A : Option Addr} {c : Nat} {xs : List α} {z : List Value} {z0 : α} (hO : Ow d T w.heap ok oi A c xs) {j : Nat} (hj : j < xs.length) (hz : ∀ ok', d.rep w.heap ok' z z0) :
    ∃ b w', A = some ⟨b, 0, none⟩ ∧ (storeCells ⟨b, j * d.sz, none⟩ (rowZero z (xs.length - j))).run P w = .ok () w' ∧ Upd (ownS A c) w w' ∧ Ow d T w'.heap ok oi A c (xs.take j ++ List.replicate (xs.length - j) z0) := by
  obtain ⟨b, cur, fl, hA', hc, hcm, hxc, hok, hb, hcs, hfl, hch⟩ := hO.storeAt hj
  subst hA'
  have hzl : z.length = d.sz := d.len (hz ok)
  have hz1 : ∀ u ∈ z, u.oneCell' = true := d.one (hz ok)
  have hul : (rowZero z (xs.length - j)).length = (xs.length - j) * d.sz := by rw [rowZero_len, hzl]
  have hin : j * d.sz + (xs.length - j) * d.sz = xs.length * d.sz := by rw [← Nat.add_mul]; congr 1; omega
  have hin2 : xs.length * d.sz ≤ c * d.sz := Nat.mul_le_mul_right _ hxc
  have hfit : j * d.sz + (rowZero z (xs.length - j)).length ≤ cur.size := by rw [hul, hcs]; omega
  have hrun := run_storeCells_at P b (j * d.sz) T (rowZero z (xs.length - j)) 0 cur w hb (by omega) (rowZero_one hz1 _)
  simp only [Nat.add_zero] at hrun
  rw [lay_eq _ cur.toList _ (by simpa using hfit)] at hrun
  have hs := setRow_upd (w := w) (b := b) (cs := (lay cur.toList (j * d.sz) (rowZero z (xs.length - j))).toArray) hb
  refine ⟨b, _, rfl, hrun, hs.1.mono fun i' _ e' => ⟨hc, _, rfl, by simpa using e'.symm⟩, .inr ⟨b, _, fl.take ((xs.take j).length * d.sz) ++ rowZero z (xs.length - j), rfl, ?_, hcm, hok, hs.2, by simp [lay_length, hcs], ?_, ?_⟩⟩
  · rw [List.length_append, List.length_take, List.length_replicate]; omega
  · have hfll : fl.length = xs.length * d.sz := hch.1
    have e1 : (xs.take j).length = j := by rw [List.length_take]; omega
    have e2 : (xs.take j ++ List.replicate (xs.length - j) z0).length = xs.length := by rw [List.length_append, List.length_replicate, e1]; omega
    rw [e2, e1, List.toList_toArray, lay_take _ _ _ _ (by rw [hul]; omega), hfl, ← lay_eq _ _ _ (by rw [hul, hfll]; omega), List.drop_eq_nil_of_le (by rw [hul, hfll]; omega), List.append_nil]
  · exact ((hch.take j).append (Ch.zeros (hz _) _)).upd fun b' _ ho => setRow_other w b b' _ ho.2
/-- clear(l[j:]), l a row of the call's own. -/
theorem RW.clearTail {i : Nat} {o : Oper} {r : OT} {T e : TypeId} {t te : Ti} {y : Operand} {l li : List Seg3} {A : Option Addr} {c : Nat} {xs : List α} {j : Nat} {z0 : α} (hT : TabOk P tab) (hO : Ow d e w.heap (okL l) (okL li) A c xs) (hj : j ≤ xs.length)
    (hn : Nx0 ops E i o) (hop : o.op = .call ⟨.builtin .clear, #[y], #[T]⟩) (hg : tab.get T = some t) (hti : t.ti = .slice e) (hge : tab.get e = some te) (hd : d.sz = te.size) (hz : ∀ ok', d.rep w.heap ok' te.zero z0)
    (hy : ev E y = some (.slice (if c = j then A else A.map (·.add (j * te.size))) (xs.length - j) (c - j)))
    (h : ∀ w', Upd (rowS (okL l) e) w w' → Ow d e w'.heap (okL l) (okL li) A c (xs.take j ++ List.replicate (xs.length - j) z0) → RW P N ops Q r E w') : RW P N ops Q (.one i .M r) E w := by
  have hke := hT.get hge
  obtain ⟨dd, hdd, ho⟩ := (hT.get hg).desc
  rw [hti] at ho
  cases ho
  have hbi : ∀ ρ, Knows E ρ → ∃ cs, execOp ρ o = builtin .clear #[T] o.type cs #[.slice (if c = j then A else A.map (·.add (j * te.size))) (xs.length - j) (c - j)] := fun ρ hρ => by
    refine ⟨#[y].map (fun | .const _ => true | _ => false), ?_⟩
    unfold execOp
    simp only [hop, resolve, List.map_toArray, List.map_cons, List.map_nil, hρ y _ hy]
    rfl
  rcases Nat.lt_or_ge j xs.length with hlt | hge'
  · obtain ⟨b, w', hA, hrun, hu, hO'⟩ := Ow.clear (P := P) (z := te.zero) (z0 := z0) hO hlt hz
    refine RW.stepM0 (v := .tuple #[]) hn (fun ρ hρ => ?_) (h w' (hO.upd_sub hu) hO')
    obtain ⟨cs, hcs⟩ := hbi ρ hρ
    rw [hcs]
    subst hA
    have hcj : ¬ c = j := by have := hO.len; omega
    have hn0 : ∃ m, xs.length - j = m + 1 := ⟨xs.length - j - 1, by omega⟩
    obtain ⟨m, hm⟩ := hn0
    rw [hm] at hrun ⊢
    rw [hd] at hrun
    have hz2 : (ofCells te.ti te.zero).cells = te.zero.toArray := ofCells_cells hke
    have hrun' : (storeCells ⟨b, j * te.size, none⟩ (Builtin.zeroCells te.zero.toArray (m + 1)).toList).run P w = .ok () w' := by rw [zeros_eq]; exact hrun
    unfold builtin
    simp [hcj, Builtin.clear_, underlying, hdd, hke.run_zero, hz2, add_lit0, hrun']
  · have e1 : xs.take j ++ List.replicate (xs.length - j) z0 = xs := by
      rw [List.take_of_length_le (by omega), show xs.length - j = 0 by omega, List.replicate_zero, List.append_nil]
    rw [e1] at h
    refine RW.stepM0 (v := .tuple #[]) hn (fun ρ hρ => ?_) (h w ⟨rfl, rfl, rfl, Nat.le_refl _, fun _ _ _ => rfl⟩ hO)
    obtain ⟨cs, hcs⟩ := hbi ρ hρ
    rw [hcs, show xs.length - j = 0 by omega]
    unfold builtin
    cases (if c = j then A else A.map (·.add (j * te.size))) <;> simp [Builtin.clear_, underlying, hdd]
/-- make([]T, n). -/
theorem RW.makeSlice {i dd : Nat} {o : Oper} {r : OT} {T e : TypeId} {t te : Ti} {x y : Operand} {k k' : IntKind} {n : Int} {cl : Cls} {z0 : α} (hT : TabOk P tab) (h0 : 0 ≤ n) (h1 : n < 4294967296) (hc : cl = .X ∨ cl = .M) (hn : Nx ops N E i o dd) (hop : o.op = .makeSlice T x y) (hg : tab.get T = some t) (hti : t.ti = .slice e) (hge : tab.get e = some te) (hbs : Nat.ble te.bytes 1000 = true) (hd : d.sz = te.size) (hz : ∀ ok', d.rep w.heap ok' te.zero z0)
    (hx : ev E x = some (.int k n)) (hy : ev E y = some (.int k' n))
    (h : ∀ b w', Ext w w' → w.heap.size ≤ b → Ow d e w'.heap (okL [(w.heap.size, some w'.heap.size, some e)]) (okL []) (some ⟨b, 0, none⟩) n.toNat (List.replicate n.toNat z0) → RW P N ops Q r ((dd, (.slice (some ⟨b, 0, none⟩) (List.replicate n.toNat z0).length n.toNat)) :: E) w') : RW P N ops Q (.one i cl r) E w := by
  have hke := hT.get hge
  obtain ⟨ds, hdd, ho⟩ := (hT.get hg).desc
  rw [hti] at ho
  cases ho
  have hw : IntKind.i64.wrap n = n := by simp [IntKind.wrap, IntKind.bits, IntKind.signed]; omega
  have hbs' : te.bytes ≤ 1000 := Nat.le_of_ble_eq_true hbs
  have hb0 : (te.bytes : Int) * n ≤ 1000 * 4294967296 := by
    refine Int.le_trans (Int.mul_le_mul_of_nonneg_right (show (te.bytes : Int) ≤ 1000 by omega) h0) ?_
    omega
  have hb2 : n.toNat * te.bytes ≤ 4294967296 * 1000 := Nat.mul_le_mul (by omega) hbs'
  have hzl : te.zero.length = te.size := hke.len
  refine RW.new (v := fun b => .slice (some ⟨b, 0, none⟩) n.toNat n.toNat) (T := e) (cs := rowZero te.zero n.toNat) hc hn (fun ρ hρ => ?_) ?_
  · obtain ⟨inf, hi1, hi2, hi3, hi4⟩ := hke.run_info w
    have n1 : ¬ n < 0 := by omega
    have n2 : ¬ (te.bytes : Int) * n > 2 ^ 48 := by omega
    have n4 : ¬ 281474976710656 < (te.bytes : Int) * n := by omega
    have n3 : ¬ n.toNat * te.bytes > 2 ^ 47 := by omega
    unfold execOp
    have hz0 : (Array.range (n.toNat * te.size)).map (fun x => (te.zero.toArray)[x % te.zero.toArray.size]!) = (rowZero te.zero n.toNat).toArray := by
      apply Array.ext'
      simp only [Array.toList_map, Array.toList_range]
      rw [← hke.len]
      exact rowZero_eq te.zero n.toNat
    by_cases hz1 : n.toNat * te.size = 0
    · have hl0 : n.toNat = 0 := by
        rcases Nat.mul_eq_zero.1 hz1 with h | h
        · exact h
        · have := hke.pos; omega
      simp [hop, hρ x _ hx, hρ y _ hy, Instr.makeSlice, underlying, hdd, asInt, asIntOf, hi1, hi3, hw, n1, n2, n3, askRoom, roomBytes, hke.run_sizeOf, hl0, newRow, rowZero, n4]
      congr 2
      apply Array.ext'
      simp
    · simp [hop, hρ x _ hx, hρ y _ hy, Instr.makeSlice, underlying, hdd, asInt, asIntOf, hi1, hi3, hw, n1, n2, n3, askRoom, roomBytes, hke.run_sizeOf, hz1, hke.run_zero, ofCells_cells hke, newRow, n4]
      simp at hz0
      rw [hz0]
  · intro b w' hx hle hb
    have hlen : (List.replicate n.toNat z0).length = n.toNat := List.length_replicate
    have hcm : n.toNat ≤ maxLen := by simp only [maxLen]; omega
    have := h b w' hx hle (by
      have hz' : ∀ ok', d.rep w'.heap ok' te.zero z0 := fun ok' => d.mono (d.upd (h' := w'.heap) (hz none') fun _ _ ho => ho.elim) fun _ _ ho => ho.elim
      have hlt : b < w'.heap.size := hb.lt
      have := Ow.of_box (ok := okL [(w.heap.size, some w'.heap.size, some e)]) (oi := okL []) hb (.inl ⟨hle, hlt, rfl⟩) (by rw [hlen]; exact hcm) (Ch.zeros (hz' _) n.toNat)
      rw [hlen] at this
      exact this)
    rw [hlen] at this
    exact this
end
end Go.H
