/- Arguments that are handed in, opened: what they read as, and that memory holds them. Plain theorems over any program. -/
import Derived.Test.YtnaajldlloglkaaDoorHK
import Derived.ChangeArms
import Derived.WideShapes
import Derived.SizedLaws
import Derived.Carry
import Derived.Below
set_option linter.unusedVariables false
set_option linter.unusedSimpArgs false
namespace Go.H
open Go.RowKit
/-- A datum of type T is told by a value of the kind d, which is good. -/
structure Opn (P : Program) (T : TypeId) {α : Type} (d : Kd α) (good : α → Prop) : Prop where
  cells : P.cellsOf T = d.sz
  open_ : ∀ {H : Type} {enc : TypeId × Value → H} {w : World} {base : Nat} {spare : Nat → Bool} {held : Bool} {fuel : Nat} {cs : List Value} {x : DataW H × List MemPlace}, DataW.trod enc P w base spare held fuel T cs = some x →
    (x.1.weights P T).all (· ≤ reachBytes) = true → ∃ v, d.rep w.heap okAll cs v ∧ good v
section
variable {P : Program}
theorem Opn.int {T : TypeId} {k : IntKind} (hu : P.underlying T = some (.int k)) (hc : P.cellsOf T = 1) : Opn P T (Kd.int k) fun n => (Lit.int k n).wf = true where
  cells := hc
  open_ h _ := by
    obtain ⟨n, rfl, _, hw⟩ := DataW.trod_int hu h
    exact ⟨n, rfl, hw⟩
theorem Opn.bool {T : TypeId} (hu : P.underlying T = some .bool) (hc : P.cellsOf T = 1) : Opn P T Kd.bool fun _ => True where
  cells := hc
  open_ h _ := by
    obtain ⟨b, rfl, _⟩ := DataW.trod_bool hu h
    exact ⟨b, rfl, trivial⟩
theorem cells_at {w : World} {base n : Nat} {a : Addr} {cs : List Value} (h : w.cells? base a n = some cs) : cs.length = n ∧ At w.heap a cs := by
  unfold World.cells? at h
  split at h
  · have hl := mapM_some_length h
    refine ⟨by simpa using hl, fun j u hu => ?_⟩
    have hj := (List.getElem?_eq_some_iff.1 hu).1
    have hg := mapM_some_get h j j (by rw [List.getElem?_range (by simpa [hl] using hj)])
    rw [hu] at hg
    exact hg
  · cases h
theorem At.lt0 {h : Heap} {p : Addr} {cs : List Value} (k : At h p cs) (h0 : 0 < cs.length) : p.block < h.size := by
  cases cs with
  | nil => simp at h0
  | cons v r => exact k.lt
theorem weightsAll_mem {H : Type} {e : TypeId} {b : Nat → Bool} : ∀ {l : List (DataW H)}, (DataW.weightsAll P e l).all b = true → ∀ d ∈ l, (d.weights P e).all b = true
  | [], _, d, hd => by simp at hd
  | x :: r, h, d, hd => by
    unfold DataW.weightsAll at h
    rw [List.all_append, Bool.and_eq_true] at h
    rcases List.mem_cons.1 hd with rfl | hd
    · exact h.1
    · exact weightsAll_mem h.2 d hd
theorem list_choice {β : Type} {n : Nat} {p : Nat → β → Prop} (h : ∀ i, i < n → ∃ x, p i x) : ∃ l : List β, l.length = n ∧ ∀ i x, l[i]? = some x → p i x := by
  induction n with
  | zero => exact ⟨[], rfl, fun i x hx => by simp at hx⟩
  | succ n ih =>
    obtain ⟨l, hl, hp⟩ := ih fun i hi => h i (by omega)
    obtain ⟨x, hx⟩ := h n (by omega)
    refine ⟨l ++ [x], by simp [hl], fun i y hy => ?_⟩
    rw [List.getElem?_append] at hy
    split at hy
    · exact hp i y hy
    · rename_i hlt
      have e : i - l.length = 0 := by
        rcases Nat.eq_zero_or_pos (i - l.length) with h' | h'
        · exact h'
        · rw [List.getElem?_eq_none (by simp; omega)] at hy; cases hy
      rw [e] at hy
      simp at hy
      subst hy
      have : i = n := by omega
      subst this
      exact hx
theorem Opn.sl {T e : TypeId} {α : Type} {d : Kd α} {good : α → Prop} (hu : P.underlying T = some (.slice e)) (hc : P.cellsOf T = 1) (he : Opn P e d good) : Opn P T (Kd.sl d) fun xs => xs.length * P.bytesOf e ≤ reachBytes ∧ ∀ x ∈ xs, good x where
  cells := hc
  open_ {H enc w base spare held fuel cs x} h hw := by
    rcases DataW.trod_slice hu h with ⟨rfl, _⟩ | ⟨a, len, cap, elems, rest, n, _, rfl, rfl, hb, hlen, hcap, hel, hget, _, _⟩
    · exact ⟨[], ⟨none, 0, rfl, by simp, Sl.nil⟩, by simp, by simp⟩
    · simp only [DataW.weights, hu, List.all_cons, List.all_append, Bool.and_eq_true, decide_eq_true_eq, List.length_map] at hw
      obtain ⟨hw1, hw2, _⟩ := hw
      obtain ⟨xs, hxl, hxs⟩ := list_choice (n := len) (p := fun i v => ∃ cs, d.rep w.heap okAll cs v ∧ At w.heap (a.add (i * d.sz)) cs ∧ good v) fun i hi => by
        have hg := hget i hi
        rw [List.getElem?_eq_getElem (by omega)] at hg
        simp only [Option.bind_eq_some_iff] at hg
        obtain ⟨cs, h1, h2⟩ := hg
        obtain ⟨hcl, hat⟩ := cells_at h1
        rw [he.cells] at hat
        obtain ⟨v, hv, hgood⟩ := he.open_ h2 (weightsAll_mem hw2 _ (List.mem_map.2 ⟨_, List.getElem_mem _, rfl⟩))
        exact ⟨v, cs, hv, hat, hgood⟩
      refine ⟨xs, ⟨some a, cap, by rw [hxl], by omega, fun i v hv => ?_⟩, ?_, fun v hv => ?_⟩
      · obtain ⟨cs, h1, h2, _⟩ := hxs i v hv
        have := h2.lt0 (by rw [d.len h1]; exact d.pos)
        rw [add_block] at this
        exact ⟨a, cs, rfl, this, trivial, h1, h2⟩
      · rw [hxl]
        exact Nat.le_trans (Nat.mul_le_mul_right _ (by omega)) hw1
      · obtain ⟨i, hi⟩ := List.getElem?_of_mem hv
        obtain ⟨_, _, _, hg⟩ := hxs i v hi
        exact hg
/-- Fields from a place on. -/
structure OpnF (P : Program) (fs : List Field) (off n : Nat) {α : Type} (d : Kd α) (good : α → Prop) : Prop where
  go : ∀ {H : Type} {enc : TypeId × Value → H} {w : World} {base : Nat} {spare : Nat → Bool} {held : Bool} {fuel : Nat} {cs : List Value} {xs : List (DataW H × List MemPlace)}, cs.length = n → xs.length = fs.length →
    (∀ (i : Nat) (f : Field), fs[i]? = some f → DataW.trod enc P w base spare held fuel f.type ((cs.drop f.offset).take (P.cellsOf f.type)) = xs[i]?) → (DataW.weightsEach P (fs.map fun f : Field => f.type) (xs.map (·.1))).all (· ≤ reachBytes) = true → ∃ v, d.rep w.heap okAll (cs.drop off) v ∧ good v
theorem OpnF.one {f : Field} {off n : Nat} {α : Type} {d : Kd α} {good : α → Prop} (h : Opn P f.type d good) (ho : f.offset = off) (hn : n = off + d.sz) : OpnF P [f] off n d good := by
  constructor
  intro H enc w base spare held fuel cs xs hl hx hf hw
  match xs, hx with
  | [x], _ =>
    have h1 := hf 0 f rfl
    simp only [List.getElem?_cons_zero, List.map_cons, List.map_nil, DataW.weightsEach, List.append_nil] at h1 hw
    rw [ho, h.cells, List.take_of_length_le (by rw [List.length_drop]; omega)] at h1
    exact h.open_ h1 hw
theorem OpnF.cons {f : Field} {r : List Field} {off n : Nat} {α β : Type} {a : Kd α} {b : Kd β} {g1 : α → Prop} {g2 : β → Prop} (h : Opn P f.type a g1) (ho : f.offset = off) (hn : off + a.sz ≤ n) (hr : OpnF P r (off + a.sz) n b g2) : OpnF P (f :: r) off n (Kd.pair a b) fun p => g1 p.1 ∧ g2 p.2 := by
  constructor
  intro H enc w base spare held fuel cs xs hl hx hf hw
  match xs, hx with
  | x :: ys, hx =>
    have h1 := hf 0 f rfl
    simp only [List.getElem?_cons_zero] at h1
    simp only [List.map_cons, DataW.weightsEach, List.all_append, Bool.and_eq_true] at hw
    rw [ho, h.cells] at h1
    obtain ⟨u, hu, hg⟩ := h.open_ h1 hw.1
    obtain ⟨v, hv, hg2⟩   := hr.go hl (by simpa using hx) (fun i f' hf' => by
      have := hf (i + 1) f' (by simpa using hf')
      simpa using this) hw.2
    refine ⟨(u, v), ⟨_, _, ?_, hu, hv⟩, hg, hg2⟩
    rw [← List.drop_drop]
    exact (List.take_append_drop a.sz (cs.drop off)).symm
theorem Opn.struct {T : TypeId} {fs : Array Field} {n : Nat} {α β : Type} {d : Kd α} {good : α → Prop} (hu : P.underlying T = some (.struct fs)) (hc : P.cellsOf T = n) (hn : d.sz = n) (h : OpnF P fs.toList 0 n d good) (f : β → α) (mk : α → β) (hm : ∀ v, f (mk v) = v) : Opn P T (Kd.iso d f) fun y => good (f y) where
  cells := hc.trans hn.symm
  open_ {H enc w base spare held fuel cs x} ht hw := by
    obtain ⟨xs, m, _, rfl, hl, hx, hf⟩ := DataW.trod_struct hu ht
    simp only [DataW.weights, hu] at hw
    obtain ⟨v, hv, hg⟩ := h.go (hl.trans hc) (by simpa using hx) (fun i f' hf' => hf i f' (by simpa using hf')) hw
    rw [List.drop_zero] at hv
    exact ⟨mk v, by show d.rep _ _ _ (f (mk v)); rw [hm]; exact hv, by rw [hm]; exact hg⟩
end
end Go.H
