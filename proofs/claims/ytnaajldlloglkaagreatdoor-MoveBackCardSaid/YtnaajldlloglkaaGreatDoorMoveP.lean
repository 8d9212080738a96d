/- Plain facts: what is late made free; what a device uses; where a table leads. -/
import Derived.Test.YtnaajldlloglkaaGreatDoorMoveF
set_option linter.unusedVariables false
set_option linter.unusedSimpArgs false
namespace Go.Proofs.YtnaajldlloglkaaGreatDoor.W
open Go.H
def settleStep {R : Type} (k : Nat) (x : List Device) (i : Int) (re : List Device → Int → Option R) : Option R :=
  (seg_Make.f k ((rd x i).Free)).bind fun y1 => (seg_Make.f k ((rd x i).Late)).bind fun y2 => (seg_Set_Segs.f k (uor y1 y2)).bind fun y3 => if 0 ≤ i ∧ i < (x.length : Int) then (if 0 ≤ i ∧ i < ((x.set i.toNat (⟨(rd x i).ID, (rd x i).Size, y3, (rd x i).Late⟩ : Device)).length : Int) then re ((x.set i.toNat (⟨(rd x i).ID, (rd x i).Size, y3, (rd x i).Late⟩ : Device)).set i.toNat (⟨(rd (x.set i.toNat (⟨(rd x i).ID, (rd x i).Size, y3, (rd x i).Late⟩ : Device)) i).ID, (rd (x.set i.toNat (⟨(rd x i).ID, (rd x i).Size, y3, (rd x i).Late⟩ : Device)) i).Size, (rd (x.set i.toNat (⟨(rd x i).ID, (rd x i).Size, y3, (rd x i).Late⟩ : Device)) i).Free, ([] : List Seg)⟩ : Device)) (w64 (i + 1)) else none) else none
structure Settles {R : Type} (k N : Nat) (f : Nat → List Device → Int → Option R) (out : List Device → R) : Prop where
  more : ∀ (n i : Nat) (x : List Device), i < N → x.length = N → f (n + 1) x i = settleStep k x i (f n)
  stop : ∀ (n : Nat) (x : List Device), f (n + 1) x (N : Int) = some (out x)
theorem settle_sets {R : Type} {P : List Device} {k : Nat} {F L : Nat → Nat → Bool} {f : Nat → List Device → Int → Option R} {out : List Device → R} (hk : 1000 < k) (hP : P.length ≤ 1000) (hf : Settles k P.length f out) : ∀ (n i : Nat) (x : List Device), i ≤ P.length → P.length - i < n → Sets P (fun j => if j < i then fun s => F j s || L j s else F j) (fun j => if j < i then fun _ => false else L j) x →
    ∃ x', Sets P (fun j s => F j s || L j s) (fun _ _ => false) x' ∧ f n x i = some (out x')
  | 0, i, x, _, hn, _ => by omega
  | n + 1, i, x, hi, hn, s => by
    have hx := s.len
    by_cases c : i < P.length
    · have ri := s.at_ i c
      simp only [Nat.lt_irrefl, if_false] at ri
      obtain ⟨u, eu, hu⟩ := Make_segs (b := F i) hk
      obtain ⟨v, ev, hv⟩ := Make_segs (b := L i) hk
      rw [hf.more n i x c hx]
      unfold settleStep
      rw [ri]
      simp only
      rw [eu, ev]
      simp only [Option.bind_some]
      rw [S.Set_Segs_eq (hu.or hv) (by omega)]
      simp only [Option.bind_some, Int.toNat_natCast]
      rw [if_pos (by omega), if_pos (by rw [List.length_set]; omega), w64_succ c (by omega)]
      have r2 : rd (x.set i (⟨(rd P (i : Int)).ID, (rd P (i : Int)).Size, S.segsOf (fun s => F i s || L i s), S.segsOf (L i)⟩ : Device)) (i : Int) = ⟨(rd P (i : Int)).ID, (rd P (i : Int)).Size, S.segsOf (fun s => F i s || L i s), S.segsOf (L i)⟩ := by
        rw [rd_setD (by omega) (by omega), if_pos rfl]
      rw [r2]
      simp only
      rw [List.set_set]
      have q := s.set c (b := fun s => F i s || L i s) (c := fun _ => false)
      rw [S.segsOf_none] at q
      refine settle_sets hk hP hf n (i + 1) _ (by omega) (by omega) ⟨q.len, fun j hj => ?_⟩
      rw [q.at_ j hj]
      by_cases d : j = i
      · simp only [if_pos d]
        rw [if_pos (by omega), if_pos (by omega), d]
      · simp only [if_neg d]
        by_cases e : j < i
        · rw [if_pos e, if_pos e, if_pos (by omega), if_pos (by omega)]
        · rw [if_neg e, if_neg e, if_neg (by omega), if_neg (by omega)]
    · rw [show i = P.length by omega, hf.stop]
      refine ⟨x, ⟨hx, fun j hj => ?_⟩, rfl⟩
      rw [s.at_ j hj, if_pos (by omega), if_pos (by omega)]
theorem settle_all {R : Type} {P x : List Device} {k : Nat} {F L : Nat → Nat → Bool} {f : Nat → List Device → Int → Option R} {out : List Device → R} (hk : 1000 < k) (hP : P.length ≤ 900) (hf : Settles k P.length f out) (s : Sets P F L x) : ∃ x', Sets P (fun j s => F j s || L j s) (fun _ _ => false) x' ∧ f k x 0 = some (out x') :=
  settle_sets hk (by omega) hf k 0 x (by omega) (by omega) ⟨s.len, fun j hj => by rw [s.at_ j hj]; simp⟩
def SegsIn (x : List Device) : Prop := ∀ d ∈ x, S.ok d.Free = true ∧ S.ok d.Late = true
theorem settle_some {R : Type} {N k : Nat} {f : Nat → List Device → Int → Option R} {out : List Device → R} (hk : 1000 < k) (hN : N ≤ 1000) (hf : Settles k N f out) : ∀ (n i : Nat) (x : List Device), i ≤ N → N - i < n → x.length = N → SegsIn x → ∃ x', f n x i = some (out x')
  | 0, i, x, _, hn, _, _ => by omega
  | n + 1, i, x, hi, hn, hx, s => by
    by_cases c : i < N
    · have m := s _ (rd_mem (show i < x.length by omega))
      obtain ⟨u, eu, hu⟩ := S.Make_set (k := k) (by have := ok_short m.1; omega) (by have := ok_short m.1; omega) m.1
      obtain ⟨v, ev, hv⟩ := S.Make_set (k := k) (by have := ok_short m.2; omega) (by have := ok_short m.2; omega) m.2
      rw [hf.more n i x c hx]
      unfold settleStep
      rw [eu, ev]
      simp only [Option.bind_some]
      rw [S.Set_Segs_eq (hu.or hv) (by omega)]
      simp only [Option.bind_some, Int.toNat_natCast]
      rw [if_pos (by omega), if_pos (by rw [List.length_set]; omega), w64_succ c (by omega), rd_setD (by omega) (by omega), if_pos rfl]
      simp only
      rw [List.set_set]
      refine settle_some hk hN hf n (i + 1) _ (by omega) (by omega) (by rw [List.length_set]; exact hx) fun d hd => ?_
      rcases List.mem_or_eq_of_mem_set hd with h | h
      · exact s d h
      · rw [h]; exact ⟨S.segsOf_ok _, rfl⟩
    · rw [show i = N by omega, hf.stop]
      exact ⟨x, rfl⟩
theorem Busy_eq {P x : List Device} {k : Nat} {F L : Nat → Nat → Bool} (hk : 1000 < k) (hP : DevsOk P) (s : Sets P F L x) {m : Nat} (hm : m < P.length) :
    ∃ u, room_Busy.f k (rd x (m : Int)) = some u ∧ S.IsSet u fun i => decide ((i : Int) < (rd P (m : Int)).Size) && !(F m i || L m i) := by
  have p := (hP.2 m (by omega) hm).1.size
  obtain ⟨a, ea, ha⟩ := S.To_set (n := (rd P (m : Int)).Size) (by omega) (by omega)
  obtain ⟨u, eu, hu⟩ := Make_segs (b := F m) hk
  obtain ⟨v, ev, hv⟩ := Make_segs (b := L m) hk
  refine ⟨_, ?_, ha.andn (hu.or hv)⟩
  unfold room_Busy.f
  rw [s.at_ m hm]
  simp only
  rw [ea, eu, ev]
  rfl
def look : List Entry → Int → Option Ptr
  | [], _ => none
  | x :: r, s => if x.From ≤ s ∧ s < x.From + x.Len then some ⟨x.Dev, x.To + s - x.From⟩ else look r s
theorem look_append {l m : List Entry} {s : Int} : look (l ++ m) s = match look l s with | some q => some q | none => look m s := by
  induction l with
  | nil => rfl
  | cons x r ih =>
    simp only [List.cons_append, look]
    split
    · rfl
    · exact ih
theorem look_none {l : List Entry} {s : Int} (h : ∀ x ∈ l, x.From + x.Len ≤ s) : look l s = none := by
  induction l with
  | nil => rfl
  | cons x r ih =>
    have a := h x List.mem_cons_self
    rw [look, if_neg (by omega)]
    exact ih fun y hy => h y (List.mem_cons_of_mem _ hy)
theorem At_l0 {t : Table} (hl : t.List_.length ≤ 1000) (ho : ∀ x ∈ t.List_, T.EntOk t.Dev t.Size x) (hs : t.Size ≤ 64) {s : Int} {q : Ptr} : ∀ (m i : Nat), i ≤ t.List_.length → t.List_.length - i < m → look (t.List_.drop i) s = some q → ∃ (j : Nat) (hj : j < t.List_.length), table_At.l0 t s m i = some (j : Int) ∧ q = ⟨t.List_[j].Dev, t.List_[j].To + s - t.List_[j].From⟩ ∧ t.List_[j].From ≤ s ∧ s < t.List_[j].From + t.List_[j].Len
  | 0, i, _, h, _ => by omega
  | m + 1, i, hi, hm, hq => by
    unfold table_At.l0
    by_cases c : i < t.List_.length
    · have hx := ho _ (List.getElem_mem c)
      rw [if_pos (by omega), if_pos ⟨by omega, by omega⟩, rd_nat c]
      rw [List.drop_eq_getElem_cons c, look] at hq
      unfold T.EntOk at hx
      unfold table_end.f table_At.j1 table_At.j0
      simp only [Option.bind_some]
      rw [w64_id (x := t.List_[i].From + t.List_[i].Len) (by omega) (by omega)]
      by_cases a : t.List_[i].From ≤ s ∧ s < t.List_[i].From + t.List_[i].Len
      · rw [if_pos a] at hq
        rw [if_pos a.1, decide_eq_true a.2, if_pos rfl]
        exact ⟨i, c, rfl, (Option.some.inj hq).symm, a⟩
      · rw [if_neg a] at hq
        have ih := At_l0 hl ho hs m (i + 1) (by omega) (by omega) hq
        rw [w64_succ c (by omega)]
        by_cases a1 : t.List_[i].From ≤ s
        · rw [if_pos a1, decide_eq_false fun z => a ⟨a1, z⟩, if_neg (by decide)]; exact ih
        · rw [if_neg a1, if_neg (by decide)]; exact ih
    · rw [List.drop_eq_nil_of_le (by omega)] at hq
      cases hq
theorem Find_look {t : Table} {k : Nat} {s : Int} {q : Ptr} (hk : 1000 < k) (hl : t.List_.length ≤ 1000) (h : T.tabOk' t = true) (hq : look t.List_ s = some q) : table_Find.f k t s = some (q, true) := by
  have ht := T.tabOk_iff.1 h
  obtain ⟨j, hj, e, eq, a⟩ := At_l0 hl (T.tab_elem ht.2) ht.1.2.2.2 k 0 (by omega) (by omega) hq
  have hx := T.tab_elem ht.2 _ (List.getElem_mem hj)
  unfold T.EntOk at hx
  unfold table_Find.f table_At.f
  have e0 : ((0 : Nat) : Int) = 0 := rfl
  rw [e0] at e
  rw [e]
  simp only [Option.bind_some]
  rw [if_neg (by omega), if_pos ⟨by omega, by omega⟩, rd_nat hj, w64_id (x := t.List_[j].To + s) (by omega) (by omega), w64_id (by omega) (by omega), eq]
end Go.Proofs.YtnaajldlloglkaaGreatDoor.W
namespace Go.Proofs.YtnaajldlloglkaaGreatDoor.W
open Go.H
theorem tab_snoc {dev size : Int} {x : Entry} : ∀ {l : List Entry} {lo : Int}, T.tabFrom dev size lo (l ++ [x]) = true ↔ T.tabFrom dev size lo l = true ∧ lo ≤ x.From ∧ (∀ y ∈ l, y.From + y.Len ≤ x.From) ∧ T.EntOk dev size x
  | [], lo => by
    rw [List.nil_append, T.tabFrom_cons]
    simp [T.tabFrom]
  | z :: l, lo => by
    rw [List.cons_append, T.tabFrom_cons, T.tabFrom_cons, tab_snoc]
    constructor
    · rintro ⟨a, b, c, d, e, f⟩
      refine ⟨⟨a, b, c⟩, by unfold T.EntOk at b; omega, fun y hy => ?_, f⟩
      rcases List.mem_cons.1 hy with h | h
      · rw [h]; exact d
      · exact e y h
    · rintro ⟨⟨a, b, c⟩, d, e, f⟩
      exact ⟨a, b, c, e z List.mem_cons_self, fun y hy => e y (List.mem_cons_of_mem _ hy), f⟩
def put (l : List Entry) (n : Int) (q : Ptr) : List Entry :=
  match l.getLast? with
  | some x => if x.From + x.Len = n ∧ x.Dev = q.Dev ∧ x.To + x.Len = q.At then l.dropLast ++ [⟨x.From, x.Len + 1, x.Dev, x.To, x.Stale⟩] else l ++ [⟨n, 1, q.Dev, q.At, 0⟩]
  | none => l ++ [⟨n, 1, q.Dev, q.At, 0⟩]
theorem put_nil {n : Int} {q : Ptr} : put [] n q = [⟨n, 1, q.Dev, q.At, 0⟩] := rfl
theorem put_snoc {l : List Entry} {x : Entry} {n : Int} {q : Ptr} : put (l ++ [x]) n q = if x.From + x.Len = n ∧ x.Dev = q.Dev ∧ x.To + x.Len = q.At then l ++ [⟨x.From, x.Len + 1, x.Dev, x.To, x.Stale⟩] else l ++ [x] ++ [⟨n, 1, q.Dev, q.At, 0⟩] := by
  unfold put
  rw [List.getLast?_concat, List.dropLast_concat]
structure Tab (dev size : Int) (ids : Int → Prop) (n : Nat) (l : List Entry) : Prop where
  tab : T.tabFrom dev size 0 l = true
  le : ∀ y ∈ l, y.From + y.Len ≤ n ∧ ids y.Dev
  len : l.length ≤ n
theorem Tab.nil {dev size : Int} {ids : Int → Prop} : Tab dev size ids 0 [] := ⟨rfl, fun y h => absurd h List.not_mem_nil, Nat.le_refl 0⟩
theorem Tab.up {dev size : Int} {ids : Int → Prop} {n : Nat} {l : List Entry} (h : Tab dev size ids n l) : Tab dev size ids (n + 1) l :=
  ⟨h.tab, fun y hy => ⟨by have := (h.le y hy).1; omega, (h.le y hy).2⟩, by have := h.len; omega⟩
theorem Tab.put {dev size : Int} {ids : Int → Prop} {n : Nat} {l : List Entry} (h : Tab dev size ids n l) (hn : (n : Int) < size) {q : Ptr} (hq : ids q.Dev) (q1 : 1 ≤ q.Dev ∧ q.Dev ≤ 40) (q2 : q.Dev ≠ dev) (q3 : 0 ≤ q.At ∧ q.At < 64) :
    Tab dev size ids (n + 1) (put l n q) ∧ look (W.put l n q) n = some q ∧ ∀ s o, look l s = some o → look (W.put l n q) s = some o := by
  have new : Tab dev size ids (n + 1) (l ++ [⟨n, 1, q.Dev, q.At, 0⟩]) ∧ look (l ++ [⟨n, 1, q.Dev, q.At, 0⟩]) n = some q ∧ ∀ s o, look l s = some o → look (l ++ [⟨n, 1, q.Dev, q.At, 0⟩]) s = some o := by
    refine ⟨⟨tab_snoc.2 ⟨h.tab, by simp, fun y hy => (h.le y hy).1, ?_⟩, fun y hy => ?_, ?_⟩, ?_, fun s o e => ?_⟩
    · unfold T.EntOk
      simp only
      omega
    · rcases List.mem_append.1 hy with z | z
      · exact ⟨by have := (h.le y z).1; omega, (h.le y z).2⟩
      · rw [List.mem_singleton] at z
        subst z
        exact ⟨by simp only; omega, hq⟩
    · rw [List.length_append]
      have := h.len
      simp only [List.length_cons, List.length_nil]
      omega
    · rw [look_append, look_none fun y hy => (h.le y hy).1, look, if_pos (by simp only; omega)]
      simp only
      rw [show q.At + (n : Int) - (n : Int) = q.At by omega]
    · rw [look_append, e]
  rcases S.snoc_cases l with e | ⟨m, x, e⟩
  · rw [e] at new ⊢
    rw [put_nil]
    exact new
  · subst e
    rw [put_snoc]
    by_cases c : x.From + x.Len = n ∧ x.Dev = q.Dev ∧ x.To + x.Len = q.At
    · rw [if_pos c]
      obtain ⟨t1, t2, t3, t4⟩ := tab_snoc.1 h.tab
      unfold T.EntOk at t4
      refine ⟨⟨tab_snoc.2 ⟨t1, t2, t3, ?_⟩, fun y hy => ?_, ?_⟩, ?_, fun s o e => ?_⟩
      · unfold T.EntOk
        simp only
        omega
      · rcases List.mem_append.1 hy with z | z
        · have := h.le y (List.mem_append_left _ z)
          exact ⟨by omega, this.2⟩
        · rw [List.mem_singleton] at z
          subst z
          have := h.le x (List.mem_append_right _ (List.mem_singleton.2 rfl))
          exact ⟨by simp only; omega, this.2⟩
      · have := h.len
        rw [List.length_append] at this ⊢
        simp only [List.length_cons, List.length_nil] at this ⊢
        omega
      · rw [look_append, look_none fun y hy => by have := t3 y hy; omega, look, if_pos (by simp only; omega)]
        simp only
        obtain ⟨qd, qa⟩ := q
        simp only at c ⊢
        rw [c.2.1, show x.To + (n : Int) - x.From = qa by omega]
      · rw [look_append] at e ⊢
        cases f : look m s with
        | some o' => rw [f] at e; exact e
        | none =>
          rw [f] at e
          simp only [look] at e ⊢
          split at e
          · rename_i g
            rw [if_pos (by omega)]
            exact e
          · cases e
    · rw [if_neg c]
      exact new
def Gs (P : List Device) : Nat → Nat → Bool := fun j i => S.mem (rd P (j : Int)).Free i || S.mem (rd P (j : Int)).Late i
structure Mv (P : List Device) (d t : Nat) (T : List (Nat × Pl)) (E : List Entry) (D : List Device) : Prop where
  dev : d < P.length
  took : Took P (rd P (d : Int)).ID (Gs P) (T.map Prod.snd)
  sets : Sets P (left (Gs P) (T.map Prod.snd)) (fun _ _ => false) D
  secs : ∀ s, (∃ q, (s, q) ∈ T) ↔ s < t ∧ Gs P d s = false
  find : ∀ e ∈ T, look E (e.1 : Int) = some (place P e.2)
  tab : Tab (rd P (d : Int)).ID (rd P (d : Int)).Size (fun i => ∃ m : Nat, m < P.length ∧ (rd P (m : Int)).ID = i) t E
  lt : (t : Int) ≤ (rd P (d : Int)).Size
theorem DevsOk.gs {P : List Device} (h : DevsOk P) : SetsOk P (Gs P) (fun _ _ => false) := h.setsOk.commit
def poolOf (P D : List Device) (d t : Nat) (E : List Entry) (next : Int) : Pool := ⟨D, [], ⟨(rd P (d : Int)).ID, t, ⟨(rd P (d : Int)).ID, (rd P (d : Int)).Size, E⟩⟩, next⟩
theorem Mv.setsOk {P : List Device} {d t : Nat} {T : List (Nat × Pl)} {E : List Entry} {D : List Device} (hP : DevsOk P) (h : Mv P d t T E D) : SetsOk P (left (Gs P) (T.map Prod.snd)) (fun _ _ => false) := left_sub hP.gs
theorem Mv.tabOk {P : List Device} {d t : Nat} {T : List (Nat × Pl)} {E : List Entry} {D : List Device} (hP : DevsOk P) (h : Mv P d t T E D) : W.T.tabOk' ⟨(rd P (d : Int)).ID, (rd P (d : Int)).Size, E⟩ = true := by
  have p := (hP.2 d (by omega) h.dev).1
  exact W.T.tabOk_iff.2 ⟨⟨p.id.1, p.id.2, p.size.1, p.size.2⟩, h.tab.tab⟩
theorem pool_in {P D : List Device} {d t : Nat} {E : List Entry} {next : Int} (hP : DevsOk P) (hd : d < P.length) (hD : DevsOk D) (hE : E.length ≤ 1000) : PIn (poolOf P D d t E next) := by
  have p := (hP.2 d (by omega) hd).1.id
  have := hD.1
  exact ⟨devs_in hD, by show D.length ≤ 1000; omega, Nat.zero_le _, fun t ht => absurd ht List.not_mem_nil, hE, by show -9223372036854775808 ≤ (rd P (d : Int)).ID ∧ (rd P (d : Int)).ID < 9223372036854775808; omega⟩
theorem Mv.short {P : List Device} {d t : Nat} {T : List (Nat × Pl)} {E : List Entry} {D : List Device} (hP : DevsOk P) (h : Mv P d t T E D) : E.length ≤ 64 := by
  have p := (hP.2 d (by omega) h.dev).1.size
  have := h.tab.len
  have := h.lt
  omega
theorem Mv.poolOk {P : List Device} {d t : Nat} {T : List (Nat × Pl)} {E : List Entry} {D : List Device} {next : Int} (hP : DevsOk P) (h : Mv P d t T E D) (ht : (t : Int) < (rd P (d : Int)).Size) (hn : next ≤ 41) (hx : ∀ j : Nat, 0 ≤ j → j < P.length → (rd P (j : Int)).ID < next) (ho : P.length ≠ 1) : PoolOk (poolOf P D d t E next) := by
  have hD := h.sets.ok hP (h.setsOk hP)
  have hl := h.sets.len
  have hd := h.dev
  have dl : ∀ j : Nat, j < P.length → (rd D (j : Int)).ID = (rd P (j : Int)).ID ∧ (rd D (j : Int)).Size = (rd P (j : Int)).Size := fun j hj => by rw [h.sets.at_ j hj]; exact ⟨rfl, rfl⟩
  refine ⟨hD, Nat.zero_le _, fun _ => by show 0 < 12; omega, ⟨hn, fun j _ hj => by exact absurd hj (Nat.not_lt_zero j), fun j _ hj => ?_⟩, ⟨fun _ => 0, fun i hi => absurd hi (Nat.not_lt_zero i)⟩, .inr ⟨d, ⟨?_, ?_, ?_, ?_, rfl, ?_, h.tabOk hP, fun x hxe => ?_⟩⟩, ?_⟩
  · show (rd D (j : Int)).ID < next
    have hj : j < D.length := hj
    rw [(dl j (by omega)).1]
    exact hx j (by omega) (by omega)
  · show d < D.length
    omega
  · show (rd D (d : Int)).ID = (rd P (d : Int)).ID
    exact (dl d hd).1
  · show (0 : Int) ≤ (t : Int)
    omega
  · show (t : Int) < (rd D (d : Int)).Size
    rw [(dl d hd).2]; exact ht
  · show (rd P (d : Int)).Size = (rd D (d : Int)).Size
    rw [(dl d hd).2]
  · obtain ⟨q1, m, hm, q2⟩ := h.tab.le x hxe
    exact ⟨q1, m, by show m < D.length; omega, by show (rd D (m : Int)).ID = x.Dev; rw [(dl m hm).1]; exact q2⟩
  · have hP2 : 2 ≤ P.length := by omega
    refine ⟨if d = 0 then 1 else 0, by show (if d = 0 then 1 else 0) < D.length; split <;> omega, ?_⟩
    show (rd D ((if d = 0 then 1 else 0 : Nat) : Int)).ID ≠ (rd P (d : Int)).ID
    rw [(dl _ (by split <;> omega)).1]
    intro e
    have := id_inj hP (by split <;> omega) hd e
    split at this <;> omega
theorem chain_Own_eq {p : Pool} {k : Nat} (hk : 1000 < k) (hd : DevsOk p.Devices) (ht : p.Tables = []) (hE : p.Job.Table.List_.length ≤ 1000) : chain_Own.f k p = some p := by
  unfold chain_Own.f
  rw [Own_eq hk hd]
  simp only [Option.bind_some]
  unfold slices_Clone_Table.f table_Own.f slices_Clone_Entry.f
  rw [if_pos (by rw [ht]; simp)]
  simp only [Option.bind_some]
  rw [if_pos (by simp only [List.length_nil]; omega)]
  simp only [Option.bind_some, List.nil_append]
  match k, hk with
  | k + 1, _ =>
    rw [chain_Own.l0, if_neg (by rw [ht]; simp)]
end Go.Proofs.YtnaajldlloglkaaGreatDoor.W
namespace Go.Proofs.YtnaajldlloglkaaGreatDoor.W
open Go.H
theorem Loose_l0 {P : List Device} {k : Nat} {no : Int} (hk : 1000 < k) (hP : DevsOk P) : ∀ (n i : Nat) (v : Int), i ≤ P.length → P.length - i < n → ∃ u, move_Loose.l0 P no k n v i = some u
  | 0, i, v, _, h => by omega
  | n + 1, i, v, hi, hn => by
    have hl := hP.1
    rw [move_Loose.l0]
    by_cases c : i < P.length
    · rw [if_pos (by omega), if_pos (by omega)]
      unfold move_Loose.j0
      rw [w64_succ c (by omega)]
      by_cases a : (rd P (i : Int)).ID = no
      · rw [if_pos a]
        exact Loose_l0 hk hP n (i + 1) _ (by omega) (by omega)
      · obtain ⟨u, eu, hu⟩ := Busy_eq hk hP hP.sets c
        rw [if_neg a, eu]
        simp only [Option.bind_some]
        rw [S.Count_eq hu]
        simp only [Option.bind_some]
        exact Loose_l0 hk hP n (i + 1) _ (by omega) (by omega)
    · rw [if_neg (by omega)]
      exact ⟨v, rfl⟩
theorem Remove_settles {k : Nat} {id : Int} {y : Pool} {y3 : Int × Bool} : Settles k y.Devices.length (fun n x i => move_Remove.l0 id k y y3 n x i) (fun x => (⟨x, y.Tables, ⟨id, 0, ⟨id, (rd y.Devices y3.1).Size, []⟩⟩, y.Next⟩, 0)) := by
  refine ⟨fun n i x hi hx => ?_, fun n x => ?_⟩
  · rw [move_Remove.l0, if_pos (by omega), if_pos (by omega)]
    rfl
  · rw [move_Remove.l0, if_neg (by omega)]
theorem Remove_eq {p : Pool} {k d : Nat} (hk : 1000 < k) (hp : PIn p) (ok : PoolOk p) (ht : p.Tables = []) (hj : p.Job.Dev = 0) (hd : d < p.Devices.length) :
    ∃ r, move_Remove.f k p (rd p.Devices (d : Int)).ID = some r ∧ (r.2 ≠ 0 ∨ p.Devices.length ≠ 1 ∧ r.2 = 0 ∧ ∃ D, r.1 = poolOf p.Devices D d 0 [] p.Next ∧ Mv p.Devices d 0 [] [] D) := by
  have hP := ok.devs
  have hl := hP.1
  have p1 := (hP.2 d (by omega) hd).1
  unfold move_Remove.f
  rw [(May_says hk hp).1 ok]
  simp only [Option.bind_some, if_true]
  rw [chain_Own_eq hk hP ht hp.job]
  simp only [Option.bind_some]
  rw [find_in hk hP hd (by have := p1.id; omega) (by have := p1.id; omega) rfl]
  simp only [Option.bind_some, if_true]
  rw [if_pos hj]
  by_cases c : (p.Devices.length : Int) = 1
  · rw [if_pos c]
    exact ⟨_, rfl, .inl (by simp)⟩
  rw [if_neg c, if_neg (by rw [ht]; simp), if_pos (by omega)]
  obtain ⟨v, ev⟩ := Loose_l0 (no := (rd p.Devices (d : Int)).ID) hk hP k 0 0 (by omega) (by omega)
  obtain ⟨u, eu, hu⟩ := Busy_eq hk hP hP.sets hd
  unfold move_Loose.f
  have e0 : ((0 : Nat) : Int) = 0 := rfl
  rw [e0] at ev
  rw [ev, eu]
  simp only [Option.bind_some]
  rw [S.Count_eq hu]
  simp only [Option.bind_some]
  split
  · exact ⟨_, rfl, .inl (by simp)⟩
  rw [if_pos (by omega)]
  obtain ⟨D, s, e⟩ := settle_all hk (by omega) (Remove_settles (id := (rd p.Devices (d : Int)).ID) (y := p) (y3 := ((d : Int), true))) hP.sets
  rw [e]
  refine ⟨_, rfl, .inr ⟨by omega, rfl, D, ?_, hd, Took.nil, ?_, fun s' => ?_, fun e h => absurd h List.not_mem_nil, Tab.nil, by have := p1.size; omega⟩⟩
  · unfold poolOf
    simp only [ht]
    rfl
  · rw [List.map_nil, left_nil]
    exact s
  · constructor
    · rintro ⟨q, h⟩
      exact absurd h List.not_mem_nil
    · intro h
      omega
section
variable {P D : List Device} {F L : Nat → Nat → Bool} {d t k : Nat} {E : List Entry} {next : Int}
theorem D_find (hk : 1000 < k) (hP : DevsOk P) (s : Sets P F L D) (o : SetsOk P F L) {j : Nat} (hj : j < P.length) : room_Find.f k D (rd P (j : Int)).ID = some ((j : Int), true) := by
  have p := (hP.2 j (by omega) hj).1.id
  have := s.len
  exact find_in (p := poolOf P D 0 0 [] 0) hk (s.ok hP o) (show j < D.length by omega) (by omega) (by omega) (show (rd D (j : Int)).ID = _ by rw [s.at_ j hj])
theorem D_device (hk : 1000 < k) (hP : DevsOk P) (s : Sets P F L D) (o : SetsOk P F L) {j : Nat} (hj : j < P.length) : chain_device.f k (poolOf P D d t E next) (rd P (j : Int)).ID = some true := by
  unfold chain_device.f
  show (room_Find.f k D _).bind _ = _
  rw [D_find hk hP s o hj]
  rfl
theorem D_size (s : Sets P F L D) {j : Nat} (hj : j < P.length) : (rd D (j : Int)).Size = (rd P (j : Int)).Size := by rw [s.at_ j hj]
theorem Trace_self (hk : 1000 < k) (hP : DevsOk P) (s : Sets P F L D) (o : SetsOk P F L) (hd : d < P.length) {j a : Nat} (hj : j < P.length) (ha : (a : Int) < (rd P (j : Int)).Size) {b : Bool} (h : b = false ∨ j ≠ d ∨ t ≤ a) :
    chain_Trace.f k (poolOf P D d t E next) (place P (j, a)) b = some (⟨place P (j, a), []⟩, true) := by
  have hl := s.len
  match k, hk with
  | k + 1, hk =>
    unfold chain_Trace.f
    rw [chain_Trace.l0]
    show (chain_device.f (k + 1) _ (rd P (j : Int)).ID).bind _ = _
    rw [D_device hk hP s o hj]
    simp only [Option.bind_some, if_true]
    show (room_Find.f (k + 1) D (rd P (j : Int)).ID).bind _ = _
    rw [D_find hk hP s o hj]
    simp only [Option.bind_some, if_true]
    rw [if_pos (show (0 : Int) ≤ (place P (j, a)).At from show (0 : Int) ≤ (a : Int) by omega), if_pos (show (0 : Int) ≤ (j : Int) ∧ (j : Int) < ((poolOf P D d t E next).Devices.length : Int) from show (0 : Int) ≤ (j : Int) ∧ (j : Int) < (D.length : Int) by omega), if_pos (show (place P (j, a)).At < (rd (poolOf P D d t E next).Devices (j : Int)).Size from show (a : Int) < (rd D (j : Int)).Size by rw [D_size s hj]; exact ha)]
    have z : chain_Trace.j0 (poolOf P D d t E next) (place P (j, a)) (k + 1) false = some (⟨place P (j, a), []⟩, true) := by
      unfold chain_Trace.j0
      rw [if_neg (by simp)]
    split
    · rename_i hb
      split
      · rename_i hi
        have e : j = d := id_inj hP hj hd hi
        rw [decide_eq_false (show ¬ ((place P (j, a)).At < (poolOf P D d t E next).Job.At) from ?_)]
        · exact z
        · show ¬ ((a : Int) < (t : Int))
          rcases h with h | h | h
          · rw [h] at hb; cases hb
          · exact absurd e h
          · omega
      · exact z
    · exact z
theorem Trace_moved (hk : 1000 < k) (hP : DevsOk P) (s : Sets P F L D) (o : SetsOk P F L) (hd : d < P.length) {a m b : Nat} (ha : (a : Int) < (rd P (d : Int)).Size) (hat : a < t) (hE : E.length ≤ 1000) (ht : T.tabOk' ⟨(rd P (d : Int)).ID, (rd P (d : Int)).Size, E⟩ = true) (hm : m < P.length) (hb : (b : Int) < (rd P (m : Int)).Size) (hf : look E (a : Int) = some (place P (m, b))) :
    chain_Trace.f k (poolOf P D d t E next) (place P (d, a)) true = some (⟨place P (m, b), [place P (d, a)]⟩, true) := by
  have hl := s.len
  match k, hk with
  | k + 1, hk =>
    unfold chain_Trace.f
    rw [chain_Trace.l0]
    show (chain_device.f (k + 1) _ (rd P (d : Int)).ID).bind _ = _
    rw [D_device hk hP s o hd]
    simp only [Option.bind_some, if_true]
    show (room_Find.f (k + 1) D (rd P (d : Int)).ID).bind _ = _
    rw [D_find hk hP s o hd]
    simp only [Option.bind_some, if_true]
    rw [if_pos (show (0 : Int) ≤ (place P (d, a)).At from show (0 : Int) ≤ (a : Int) by omega), if_pos (show (0 : Int) ≤ (d : Int) ∧ (d : Int) < ((poolOf P D d t E next).Devices.length : Int) from show (0 : Int) ≤ (d : Int) ∧ (d : Int) < (D.length : Int) by omega), if_pos (show (place P (d, a)).At < (rd (poolOf P D d t E next).Devices (d : Int)).Size from show (a : Int) < (rd D (d : Int)).Size by rw [D_size s hd]; exact ha)]
    rw [if_pos (show (place P (d, a)).Dev = (poolOf P D d t E next).Job.Dev from rfl), decide_eq_true (show (place P (d, a)).At < (poolOf P D d t E next).Job.At from show (a : Int) < (t : Int) by omega)]
    unfold chain_Trace.j0
    rw [if_pos rfl, if_pos (by simp only [List.length_nil]; omega)]
    rw [show table_Find.f (k + 1) (poolOf P D d t E next).Job.Table (place P (d, a)).At = some (place P (m, b), true) from Find_look hk hE ht hf]
    simp only [Option.bind_some]
    unfold chain_Trace.j1
    rw [if_pos rfl]
    show (room_Find.f (k + 1) D (rd P (m : Int)).ID).bind _ = _
    rw [D_find hk hP s o hm]
    simp only [Option.bind_some, if_true]
    rw [if_pos (show (0 : Int) ≤ (place P (m, b)).At from show (0 : Int) ≤ (b : Int) by omega), if_pos (show (0 : Int) ≤ (m : Int) ∧ (m : Int) < ((poolOf P D d t E next).Devices.length : Int) from show (0 : Int) ≤ (m : Int) ∧ (m : Int) < (D.length : Int) by omega), decide_eq_true (show (place P (m, b)).At < (rd (poolOf P D d t E next).Devices (m : Int)).Size from show (b : Int) < (rd D (m : Int)).Size by rw [D_size s hm]; exact hb)]
    rfl
end
end Go.Proofs.YtnaajldlloglkaaGreatDoor.W
namespace Go.Proofs.YtnaajldlloglkaaGreatDoor.W
open Go.H
theorem Cancel_settles {k : Nat} {y : Pool} {D : List Device} {y12 : Int × Bool} {y14 : List Seg} : Settles k D.length (fun n x i => move_Cancel.l1 k y D y12 y14 n x i) (fun x => (⟨x, y.Tables, ⟨0, 0, ⟨0, 0, []⟩⟩, y.Next⟩, 0)) := by
  refine ⟨fun n i x hi hx => ?_, fun n x => ?_⟩
  · rw [move_Cancel.l1, if_pos (by simp only [List.length_set]; omega), if_pos (by omega)]
    rfl
  · rw [move_Cancel.l1, if_neg (by simp only [List.length_set]; omega)]
structure AllUsed (P : List Device) (U : List Pl) : Prop where
  nd : U.Nodup
  mem : ∀ j s : Nat, (j, s) ∈ U ↔ j < P.length ∧ (s : Int) < (rd P (j : Int)).Size ∧ Gs P j s = false
theorem mem_take_succ {U : List Pl} {i : Nat} (h : i < U.length) {q : Pl} : q ∈ U.take (i + 1) ↔ q ∈ U.take i ∨ q = U[i] := by
  rw [List.take_succ_eq_append_getElem h, List.mem_append, List.mem_singleton]
theorem nodup_inj {α : Type} {l : List α} (h : l.Nodup) {i j : Nat} (hi : i < l.length) (hj : j < l.length) (e : l[i] = l[j]) : i = j := by
  have q := List.pairwise_iff_getElem.1 h
  rcases Nat.lt_trichotomy i j with z | z | z
  · exact absurd e (q i j hi hj z)
  · exact z
  · exact absurd e.symm (q j i hj hi z)
theorem not_taken {U : List Pl} (hU : U.Nodup) {i : Nat} (h : i < U.length) : ¬ U[i] ∈ U.take i := fun m => by
  obtain ⟨j, hj, e⟩ := List.getElem_of_mem m
  rw [List.length_take] at hj
  rw [List.getElem_take] at e
  have := nodup_inj hU (by omega) h e
  omega
section
variable {P D : List Device} {d t k : Nat} {E : List Entry} {next : Int} {T : List (Nat × Pl)} {U : List Pl}
theorem Mv.inj {D0 : List Device} (h : Mv P d t T E D0) {a b : Nat} {q : Pl} (ha : (a, q) ∈ T) (hb : (b, q) ∈ T) : a = b := by
  have nd := h.took.nd
  obtain ⟨i, hi, ei⟩ := List.getElem_of_mem ha
  obtain ⟨j, hj, ej⟩ := List.getElem_of_mem hb
  have e := nodup_inj nd (i := i) (j := j) (by rw [List.length_map]; exact hi) (by rw [List.length_map]; exact hj) (by simp only [List.getElem_map, ei, ej])
  subst e
  rw [ei] at ej
  injection ej
structure Cn (P : List Device) (d : Nat) (T : List (Nat × Pl)) (U : List Pl) (i : Nat) (B : List Pl) (x : Int) (D : List Device) : Prop where
  kept : S.IsSet x fun s => decide ((d, s) ∈ U.take i)
  sets : Sets P (left (Gs P) (T.map Prod.snd)) (inT B) D
  back : ∀ q, q ∈ B ↔ ∃ s, (s, q) ∈ T ∧ (d, s) ∈ U.take i
theorem Cn.setsOk {i : Nat} {B : List Pl} {x : Int} {D0 : List Device} (hP : DevsOk P) (h : Mv P d t T E D0) (c : Cn P d T U i B x D) : SetsOk P (left (Gs P) (T.map Prod.snd)) (inT B) :=
  given_ok hP.gs h.took fun q hq => by
    obtain ⟨s, h1, _⟩ := (c.back q).1 hq
    exact List.mem_map.2 ⟨(s, q), h1, rfl⟩
theorem Cancel_l0 {D0 : List Device} (hk : 1000 < k) (hP : DevsOk P) (h : Mv P d t T E D0) (hU : AllUsed P U) (hl : U.length ≤ 400) : ∀ (n i : Nat) (B : List Pl) (x : Int) (D : List Device), i ≤ U.length → U.length - i < n → Cn P d T U i B x D →
    ∃ D', Sets P (Gs P) (fun _ _ => false) D' ∧ move_Cancel.l0 (U.map (place P)) k (poolOf P D0 d t E next) n x i D = some (⟨D', [], ⟨0, 0, ⟨0, 0, []⟩⟩, next⟩, 0)
  | 0, i, B, x, D, _, hn, _ => by omega
  | n + 1, i, B, x, D, hi, hn, c => by
    have o := c.setsOk hP h
    have hD := c.sets.len
    have hd := h.dev
    have pl := hP.1
    rw [move_Cancel.l0, List.length_map]
    by_cases g : i < U.length
    · obtain ⟨j, a⟩ : Pl := U[i]
      have hu : ∃ j a, U[i] = (j, a) := ⟨_, _, rfl⟩
      clear j a
      obtain ⟨j, a, hu⟩ := hu
      have hm := (hU.mem j a).1 (hu ▸ List.getElem_mem g)
      have rp : rd (U.map (place P)) (i : Int) = place P (j, a) := by rw [rd_nat (by rw [List.length_map]; exact g), List.getElem_map, hu]
      have nt := not_taken hU.nd g
      rw [hu] at nt
      rw [if_pos (by omega), if_pos (by omega), rp]
      have tself := fun b hb => Trace_self (d := d) (t := t) (E := E) (next := next) hk hP c.sets o hd hm.1 hm.2.1 (b := b) hb
      have p1 := (hP.2 j (by omega) hm.1).1.size
      have a64 : a < 64 := by omega
      have step : ∀ x' B' D', Cn P d T U (i + 1) B' x' D' → ∃ D'', Sets P (Gs P) (fun _ _ => false) D'' ∧ move_Cancel.j0 (i : Int) (move_Cancel.l0 (U.map (place P)) k (poolOf P D0 d t E next) n) x' D' = some (⟨D'', [], ⟨0, 0, ⟨0, 0, []⟩⟩, next⟩, 0) := fun x' B' D' c' => by
        unfold move_Cancel.j0
        rw [w64_succ g (by omega)]
        exact Cancel_l0 hk hP h hU hl n (i + 1) B' x' D' (by omega) (by omega) c'
      by_cases e : j = d
      · subst e
        obtain ⟨y, ey, hy⟩ := S.One_set (n := (a : Int)) (by omega) (by omega)
        have kept : S.IsSet (uor x y) fun s => decide ((j, s) ∈ U.take (i + 1)) := (c.kept.or hy).congr fun s hs => by
          simp only [mem_take_succ g, hu, Prod.mk.injEq, true_and]
          have z3 : decide ((s : Int) = (a : Int)) = decide (s = a) := by simp only [decide_eq_decide]; omega
          rw [z3]
          by_cases z1 : (j, s) ∈ U.take i <;> by_cases z2 : s = a <;> simp [z1, z2]
        by_cases ta : t ≤ a
        · rw [show chain_Trace.f k (⟨D, (poolOf P D0 j t E next).Tables, (poolOf P D0 j t E next).Job, (poolOf P D0 j t E next).Next⟩ : Pool) (place P (j, a)) true = _ from tself true (.inr (.inr ta))]
          simp only [Option.bind_some]
          unfold move_Cancel.j1
          rw [if_pos rfl, rp, show chain_Trace.f k (⟨D, (poolOf P D0 j t E next).Tables, (poolOf P D0 j t E next).Job, (poolOf P D0 j t E next).Next⟩ : Pool) (place P (j, a)) false = _ from tself false (.inl rfl)]
          simp only [Option.bind_some]
          unfold move_Cancel.j2
          rw [if_pos (show (place P (j, a)).Dev = (poolOf P D0 j t E next).Job.Dev from rfl), show seg_One.f (place P (j, a)).At = some y from ey]
          simp only [Option.bind_some]
          rw [if_pos (show (poolOf P D0 j t E next).Job.At ≤ (place P (j, a)).At from show (t : Int) ≤ (a : Int) by omega)]
          refine step _ B D ⟨kept, c.sets, fun q => (c.back q).trans ⟨fun ⟨s, h1, h2⟩ => ⟨s, h1, (mem_take_succ g).2 (.inl h2)⟩, fun ⟨s, h1, h2⟩ => ⟨s, h1, ?_⟩⟩⟩
          rcases (mem_take_succ g).1 h2 with z | z
          · exact z
          · rw [hu] at z
            injection z with _ z
            have := ((h.secs s).1 ⟨q, h1⟩).1
            omega
        · obtain ⟨q, hq⟩ := (h.secs a).2 ⟨by omega, hm.2.2⟩
          obtain ⟨m, b⟩ := q
          have ti := h.took.in_ _ (List.mem_map.2 ⟨(a, (m, b)), hq, rfl⟩)
          simp only at ti
          obtain ⟨hm1, hb1, hf1, hid⟩ := ti
          have bs : (b : Int) < (rd P (m : Int)).Size := hP.gs.free m b hm1 hb1 hf1
          rw [show chain_Trace.f k (⟨D, (poolOf P D0 j t E next).Tables, (poolOf P D0 j t E next).Job, (poolOf P D0 j t E next).Next⟩ : Pool) (place P (j, a)) true = _ from Trace_moved hk hP c.sets o hd hm.2.1 (by omega) (by have := h.short hP; omega) (h.tabOk hP) hm1 bs (h.find _ hq)]
          simp only [Option.bind_some]
          unfold move_Cancel.j1
          rw [if_pos rfl, rp, show chain_Trace.f k (⟨D, (poolOf P D0 j t E next).Tables, (poolOf P D0 j t E next).Job, (poolOf P D0 j t E next).Next⟩ : Pool) (place P (j, a)) false = _ from tself false (.inl rfl)]
          simp only [Option.bind_some]
          unfold move_Cancel.j2
          rw [if_pos (show (place P (j, a)).Dev = (poolOf P D0 j t E next).Job.Dev from rfl), show seg_One.f (place P (j, a)).At = some y from ey]
          simp only [Option.bind_some]
          rw [if_neg (show ¬ (poolOf P D0 j t E next).Job.At ≤ (place P (j, a)).At from show ¬ (t : Int) ≤ (a : Int) by omega)]
          rw [show room_Find.f k D (place P (m, b)).Dev = some ((m : Int), true) from D_find hk hP c.sets o hm1]
          simp only [Option.bind_some, if_true]
          rw [if_neg (show ¬ (place P (m, b)).At < 0 from show ¬ (b : Int) < 0 by omega), if_pos (by omega), if_neg (show ¬ (rd D (m : Int)).Size ≤ (place P (m, b)).At from show ¬ (rd D (m : Int)).Size ≤ (b : Int) by rw [D_size c.sets hm1]; omega), if_pos (by omega)]
          obtain ⟨v, ev, hv⟩ := Busy_eq hk hP c.sets hm1
          have nB : ¬ (m, b) ∈ B := fun z => by
            obtain ⟨s, h1, h2⟩ := (c.back _).1 z
            rw [h.inj h1 hq] at h2
            exact nt h2
          have inTq : (m, b) ∈ T.map Prod.snd := List.mem_map.2 ⟨(a, (m, b)), hq, rfl⟩
          rw [ev]
          simp only [Option.bind_some]
          rw [show seg_Set_Has.f v (place P (m, b)).At = _ from S.SetHas_eq hv]
          simp only [Option.bind_some]
          rw [if_pos (by
            have l0 : left (Gs P) (T.map Prod.snd) m b = false := by unfold left; simp [inTq]
            have i0 : inT B m b = false := by unfold inT; simp [nB]
            have n1 : S.inNum (b : Int) = true := S.inNum_iff.2 ⟨by omega, by omega⟩
            show (S.inNum (b : Int) && (decide ((((b : Int).toNat : Nat) : Int) < (rd P (m : Int)).Size) && !(left (Gs P) (T.map Prod.snd) m (b : Int).toNat || inT B m (b : Int).toNat))) = true
            rw [Int.toNat_natCast, l0, i0, n1, decide_eq_true bs]
            rfl), if_pos (by omega), c.sets.at_ m hm1]
          simp only
          obtain ⟨u, eu, hu'⟩ := Make_segs (b := inT B m) hk
          obtain ⟨o1, eo, ho⟩ := S.One_set (n := (b : Int)) (by omega) (by omega)
          rw [eu]
          simp only [Option.bind_some]
          rw [show seg_One.f (place P (m, b)).At = some o1 from eo]
          simp only [Option.bind_some]
          rw [S.Set_Segs_eq ((hu'.or ho).congr (c := inT (B ++ [(m, b)]) m) fun s hs => by
            have z3 : decide ((s : Int) = (b : Int)) = decide (s = b) := by simp only [decide_eq_decide]; omega
            rw [inT_snoc, z3]; simp) (by omega)]
          simp only [Option.bind_some, Int.toNat_natCast]
          rw [if_pos (by omega)]
          have q' := c.sets.set hm1 (b := left (Gs P) (T.map Prod.snd) m) (c := inT (B ++ [(m, b)]) m)
          refine step _ (B ++ [(m, b)]) _ ⟨kept, ⟨q'.len, fun z hz => ?_⟩, fun q => ?_⟩
          · rw [q'.at_ z hz]
            by_cases y : z = m
            · subst y
              simp only [if_true]
            · simp only [if_neg y]
              rw [S.segsOf_congr (b := inT B z) (c := inT (B ++ [(m, b)]) z) fun s _ => by rw [inT_snoc]; simp [y]]
          · rw [List.mem_append, List.mem_singleton, c.back q]
            constructor
            · rintro (⟨s, h1, h2⟩ | z)
              · exact ⟨s, h1, (mem_take_succ g).2 (.inl h2)⟩
              · exact ⟨a, z ▸ hq, (mem_take_succ g).2 (.inr hu.symm)⟩
            · rintro ⟨s, h1, h2⟩
              rcases (mem_take_succ g).1 h2 with z | z
              · exact .inl ⟨s, h1, z⟩
              · rw [hu] at z
                injection z with _ z
                subst z
                right
                have e1 := h.find _ h1
                have e2 := h.find _ hq
                rw [e1] at e2
                have e3 := Option.some.inj e2
                have t2 := h.took.in_ _ (List.mem_map.2 ⟨(s, q), h1, rfl⟩)
                simp only [place] at e3
                injection e3 with f1 f2
                have := id_inj hP t2.1 hm1 f1
                obtain ⟨q1, q2⟩ := q
                simp only at this f2
                rw [this, show q2 = b by omega]
      · rw [show chain_Trace.f k (⟨D, (poolOf P D0 d t E next).Tables, (poolOf P D0 d t E next).Job, (poolOf P D0 d t E next).Next⟩ : Pool) (place P (j, a)) true = _ from tself true (.inr (.inl e))]
        simp only [Option.bind_some]
        unfold move_Cancel.j1
        rw [if_pos rfl, rp, show chain_Trace.f k (⟨D, (poolOf P D0 d t E next).Tables, (poolOf P D0 d t E next).Job, (poolOf P D0 d t E next).Next⟩ : Pool) (place P (j, a)) false = _ from tself false (.inl rfl)]
        simp only [Option.bind_some]
        unfold move_Cancel.j2
        rw [if_neg (show ¬ (place P (j, a)).Dev = (poolOf P D0 d t E next).Job.Dev from fun z => e (id_inj hP hm.1 hd z))]
        have same : ∀ s, (d, s) ∈ U.take (i + 1) ↔ (d, s) ∈ U.take i := fun s => by
          rw [mem_take_succ g, hu]
          refine ⟨fun z => z.elim id fun z => ?_, .inl⟩
          injection z with z _
          exact absurd z.symm e
        refine step _ B D ⟨c.kept.congr fun s _ => by simp only [same], c.sets, fun q => (c.back q).trans ?_⟩
        simp only [same]
    · rw [if_neg (by omega)]
      have tk : U.take i = U := List.take_of_length_le (by omega)
      have fi : room_Find.f k D (poolOf P D0 d t E next).Job.Dev = some ((d : Int), true) := D_find hk hP c.sets o hd
      rw [fi]
      simp only [Option.bind_some]
      have p1 := (hP.2 d (by omega) hd).1.size
      obtain ⟨y, ey, hy⟩ := S.To_set (n := (rd P (d : Int)).Size) (by omega) (by omega)
      have lf : ∀ s, left (Gs P) (T.map Prod.snd) d s = Gs P d s := fun s => by
        unfold left
        rw [decide_eq_false fun z => (h.took.in_ _ z).2.2.2 rfl]
        simp
      have hset : S.IsSet (uandn y x) (Gs P d) := (hy.andn c.kept).congr fun s hs => by
        rw [tk]
        cases z : Gs P d s
        · by_cases y : (s : Int) < (rd P (d : Int)).Size
          · simp [(hU.mem d s).2 ⟨hd, y, z⟩]
          · simp [y]
        · have := hP.gs.free d s hd hs z
          have : ¬ (d, s) ∈ U := fun y => by rw [((hU.mem d s).1 y).2.2] at z; cases z
          simp [*]
      rw [if_pos (by omega), D_size c.sets hd, ey]
      simp only [Option.bind_some]
      rw [S.Set_Segs_eq hset (by omega)]
      simp only [Option.bind_some]
      have nB : ∀ s, inT B d s = false := fun s => decide_eq_false fun z => by
        obtain ⟨s', h1, _⟩ := (c.back _).1 z
        exact (h.took.in_ _ (List.mem_map.2 ⟨_, h1, rfl⟩)).2.2.2 rfl
      have q1 := c.sets.set hd (b := Gs P d) (c := fun _ => false)
      rw [S.segsOf_none] at q1
      simp only [Int.toNat_natCast]
      rw [rd_setD (by omega) (by omega), if_pos rfl]
      simp only
      rw [List.set_set, c.sets.at_ d hd]
      simp only
      have q2 : Sets P (left (Gs P) (T.map Prod.snd)) (inT B) (D.set d ⟨(rd P (d : Int)).ID, (rd P (d : Int)).Size, S.segsOf (Gs P d), []⟩) := ⟨q1.len, fun z hz => by
        rw [q1.at_ z hz]
        by_cases y : z = d
        · subst y
          simp only [if_true]
          rw [S.segsOf_congr (b := left (Gs P) (T.map Prod.snd) z) fun s _ => lf s, S.segsOf_congr (b := inT B z) fun s _ => nB s]
        · simp only [if_neg y]⟩
      obtain ⟨D', s, e'⟩ := settle_all hk (by omega) (hD ▸ Cancel_settles (y := poolOf P D0 d t E next) (D := D) (y12 := ((d : Int), true)) (y14 := S.segsOf (Gs P d))) q2
      refine ⟨D', ⟨s.len, fun z hz => ?_⟩, e'⟩
      rw [s.at_ z hz, S.segsOf_congr fun i' hi' => ?_]
      unfold left inT
      by_cases w : (z, i') ∈ T.map Prod.snd
      · obtain ⟨e1, h1, h2⟩ := List.mem_map.1 w
        obtain ⟨a', q⟩ := e1
        simp only at h2
        have gz := (h.took.in_ _ w).2.2.1
        have sz := (h.secs a').1 ⟨q, h1⟩
        have lt := h.lt
        have : (z, i') ∈ B := (c.back _).2 ⟨a', h2 ▸ h1, by rw [tk]; exact (hU.mem d a').2 ⟨hd, by omega, sz.2⟩⟩
        simp only at gz
        simp [this, gz]
      · have : ¬ (z, i') ∈ B := fun y => by
          obtain ⟨s', h1, _⟩ := (c.back _).1 y
          exact w (List.mem_map.2 ⟨_, h1, rfl⟩)
        simp [w, this]
theorem Cancel_eq {D0 : List Device} (hk : 1000 < k) (hP : DevsOk P) (h : Mv P d t T E D0) (hU : AllUsed P U) (hl : U.length ≤ 400) (ht : (t : Int) < (rd P (d : Int)).Size) (hn : next ≤ 41) (hx : ∀ j : Nat, 0 ≤ j → j < P.length → (rd P (j : Int)).ID < next) (ho : P.length ≠ 1) :
    ∃ D', Sets P (Gs P) (fun _ _ => false) D' ∧ move_Cancel.f k (poolOf P D0 d t E next) (U.map (place P)) = some (⟨D', [], ⟨0, 0, ⟨0, 0, []⟩⟩, next⟩, 0) := by
  have ok := h.poolOk hP ht hn hx ho
  have hD := h.sets.ok hP (h.setsOk hP)
  have sh := h.short hP
  have p1 := (hP.2 d (by omega) h.dev).1.id
  unfold move_Cancel.f
  rw [(May_says hk (pool_in hP h.dev hD (by omega))).1 ok]
  simp only [Option.bind_some, if_true]
  rw [chain_Own_eq hk hD rfl (show E.length ≤ 1000 by omega)]
  simp only [Option.bind_some]
  rw [if_neg (show ¬ (poolOf P D0 d t E next).Job.Dev = 0 from show ¬ (rd P (d : Int)).ID = 0 by omega)]
  have e0 : inT [] = fun _ _ => false := by funext j i; rfl
  exact Cancel_l0 hk hP h hU hl k 0 [] 0 D0 (by omega) (by omega) ⟨S.IsSet.zero.congr fun i _ => by simp, e0 ▸ h.sets, fun q => by simp⟩
end
end Go.Proofs.YtnaajldlloglkaaGreatDoor.W
namespace Go.Proofs.YtnaajldlloglkaaGreatDoor.W
open Go.H
section
variable {P D D0 : List Device} {d t t0 k : Nat} {E E0 : List Entry} {next : Int} {T : List (Nat × Pl)}
def Out (P : List Device) (d : Nat) (next : Int) (r : Pool × List Pair × Int) : Prop :=
  r.2.2 ≠ 0 ∨ r.1.Job.Dev = 0 ∨ (r.2.2 = 0 ∧ ∃ t E T D, r.1 = poolOf P D d t E next ∧ Mv P d t T E D ∧ (t : Int) < (rd P (d : Int)).Size)
theorem Step_settles {k : Nat} {y : Pool} {lb : List Pair} {D : List Device} {tb : List Table} {a b c e : Int} {l : List Entry} : Settles k D.length (fun n x i => move_Step.l2 k y lb D tb a b c e l n x i) (fun x => (⟨x, tb, ⟨a, b, ⟨c, e, l⟩⟩, y.Next⟩, lb, 0)) := by
  refine ⟨fun n i x hi hx => ?_, fun n x => ?_⟩
  · rw [move_Step.l2, if_pos (by omega), if_pos (by omega)]
    rfl
  · rw [move_Step.l2, if_neg (by omega)]
theorem Mv.low (h : Mv P d t T E D) (s : Nat) : left (Gs P) (T.map Prod.snd) d s = Gs P d s := by
  unfold left
  rw [decide_eq_false fun z => (h.took.in_ _ z).2.2.2 rfl]
  simp
theorem Mv.segsIn (h : Mv P d t T E D) : SegsIn D := fun x hx => by
  obtain ⟨j, hj, e⟩ := List.getElem_of_mem hx
  have := h.sets.len
  have q := h.sets.at_ j (by omega)
  rw [rd_nat hj, e] at q
  rw [q]
  exact ⟨S.segsOf_ok _, S.segsOf_ok _⟩
theorem Step_end {lb : List Pair} {it : Int} {re : Int → List Pair → List Device → Int → List Entry → Option (Pool × List Pair × Int)} (hk : 1000 < k) (hP : DevsOk P) (h : Mv P d t T E D) :
    ∃ r, move_Step.j0 k (poolOf P D0 d t0 E0 next) it lb D t E re false = some r ∧ Out P d next r := by
  have hl := h.sets.len
  have pl := hP.1
  have hd := h.dev
  have o := h.setsOk hP
  unfold move_Step.j0
  rw [if_neg (by simp)]
  by_cases c : (t : Int) < (rd P (d : Int)).Size
  · rw [if_pos (show (t : Int) < (poolOf P D0 d t0 E0 next).Job.Table.Size from c)]
    unfold move_Step.j6
    obtain ⟨D', s, e⟩ := settle_all hk (by omega) (hl ▸ Step_settles (k := k) (y := poolOf P D0 d t0 E0 next) (lb := lb) (D := D) (tb := (poolOf P D0 d t0 E0 next).Tables) (a := (poolOf P D0 d t0 E0 next).Job.Dev) (b := (t : Int)) (c := (poolOf P D0 d t0 E0 next).Job.Table.Dev) (e := (poolOf P D0 d t0 E0 next).Job.Table.Size) (l := E)) h.sets
    exact ⟨_, e, .inr (.inr ⟨rfl, t, E, T, D', rfl, ⟨hd, h.took, ⟨s.len, fun j hj => by rw [s.at_ j hj]; simp⟩, h.secs, h.find, h.tab, h.lt⟩, c⟩)⟩
  · rw [if_neg (show ¬ (t : Int) < (poolOf P D0 d t0 E0 next).Job.Table.Size from c)]
    rw [show room_Find.f k D (poolOf P D0 d t0 E0 next).Job.Dev = some ((d : Int), true) from D_find hk hP h.sets o hd]
    simp only [Option.bind_some]
    have cf : ∀ (p : Pool) (id : Int), p.Tables = [] → chain_Find.f k p id = some (0, false) := fun p id e => by
      match k, hk with
      | k + 1, _ =>
        unfold chain_Find.f
        rw [chain_Find.l0, e, if_neg (by simp), if_neg (by simp)]
        rfl
    rw [cf _ _ rfl]
    simp only [Option.bind_some]
    unfold slices_Delete_Device.f slices_Insert_Table.f
    rw [w64_succ (show d < D.length by omega) (by omega), if_pos (by omega)]
    simp only [Option.bind_some]
    rw [if_pos (show (0 : Int) ≤ 0 ∧ (0 : Int) ≤ (((poolOf P D0 d t0 E0 next).Tables.length : Nat) : Int) ∧ ((poolOf P D0 d t0 E0 next).Tables.length + 1) * 40 ≤ 140737488355328 from ⟨Int.le_refl 0, by omega, by show (0 + 1) * 40 ≤ _; omega⟩)]
    simp only [Option.bind_some, Int.toNat_natCast]
    unfold move_Step.j7 move_Step.j6
    have len : (D.take d ++ D.drop (d + 1)).length ≤ 1000 := by rw [List.length_append, List.length_take, List.length_drop]; omega
    obtain ⟨x', e⟩ := settle_some hk len (Step_settles (k := k) (y := poolOf P D0 d t0 E0 next) (lb := lb) (D := D.take d ++ D.drop (d + 1)) (tb := ((poolOf P D0 d t0 E0 next).Tables.take (0 : Int).toNat ++ ⟨(poolOf P D0 d t0 E0 next).Job.Table.Dev, (poolOf P D0 d t0 E0 next).Job.Table.Size, E⟩ :: (poolOf P D0 d t0 E0 next).Tables.drop (0 : Int).toNat)) (a := 0) (b := 0) (c := 0) (e := 0) (l := [])) k 0 (D.take d ++ D.drop (d + 1)) (by omega) (by omega) rfl (fun y hy => h.segsIn y (by
      rcases List.mem_append.1 hy with z | z
      · exact List.mem_of_mem_take z
      · exact List.mem_of_mem_drop z))
    exact ⟨_, e, .inr (.inl rfl)⟩
theorem Put_eq {y : Pool} {it n : Int} {lb : List Pair} {q : Ptr} {l : List Entry} {re : Int → List Pair → List Device → Int → List Entry → Option (Pool × List Pair × Int)} (hl : l.length ≤ 1000) (ho : ∀ x ∈ l, -1000 ≤ x.From ∧ x.From ≤ 1000 ∧ 0 ≤ x.Len ∧ x.Len ≤ 1000 ∧ -1000 ≤ x.To ∧ x.To ≤ 1000) (hlb : lb.length ≤ 1000) :
    move_Step.j2 y it lb n l re [q] true D = re (w64 (it - 1)) (lb ++ [⟨⟨y.Job.Dev, n⟩, q⟩]) D (w64 (n + 1)) (put l n q) := by
  have r0 : rd [q] (0 : Int) = q := rfl
  have j5 : ∀ l', move_Step.j3 y it lb n [q] D re l' = re (w64 (it - 1)) (lb ++ [⟨⟨y.Job.Dev, n⟩, q⟩]) D (w64 (n + 1)) l' := fun l' => by
    unfold move_Step.j3 move_Step.j1
    rw [if_pos ⟨Int.le_refl 0, by simp⟩, if_pos (by omega), if_pos rfl, r0]
  have j6 : move_Step.j4 y it lb n l [q] D re = re (w64 (it - 1)) (lb ++ [⟨⟨y.Job.Dev, n⟩, q⟩]) D (w64 (n + 1)) (l ++ [⟨n, 1, q.Dev, q.At, 0⟩]) := by
    unfold move_Step.j4
    rw [if_pos (by omega), j5, r0]
  unfold move_Step.j2
  rw [if_pos rfl, if_pos ⟨Int.le_refl 0, by simp⟩]
  rcases S.snoc_cases l with e | ⟨m, x, e⟩
  · subst e
    rw [if_neg (by decide), j6, put_nil]
    rfl
  · subst e
    have hx := ho x (List.mem_append_right _ (List.mem_singleton.2 rfl))
    rw [T.last_len hl, T.rd_last, r0, if_pos (by omega), if_pos ⟨by omega, T.last_lt⟩]
    unfold table_end.f
    simp only [Option.bind_some]
    rw [w64_id (x := x.From + x.Len) (by omega) (by omega), w64_id (x := x.To + x.Len) (by omega) (by omega), put_snoc]
    have j7f : move_Step.j5 y it lb n (m ++ [x]) [q] D re false = re (w64 (it - 1)) (lb ++ [⟨⟨y.Job.Dev, n⟩, q⟩]) D (w64 (n + 1)) (m ++ [x] ++ [⟨n, 1, q.Dev, q.At, 0⟩]) := by
      unfold move_Step.j5
      rw [if_neg (by simp), j6]
    by_cases c1 : x.From + x.Len = n
    · rw [if_pos c1]
      by_cases c2 : x.Dev = q.Dev
      · rw [if_pos c2]
        by_cases c3 : x.To + x.Len = q.At
        · rw [if_pos ⟨c1, c2, c3⟩, show (x.To + x.Len == q.At) = true from beq_iff_eq.2 c3]
          unfold move_Step.j5
          rw [if_pos rfl, T.last_len hl, T.rd_last, if_pos ⟨by omega, T.last_lt⟩, if_pos ⟨by omega, T.last_lt⟩, j5, w64_id (x := x.Len + 1) (by omega) (by omega), Int.toNat_natCast, List.set_append_right _ _ (Nat.le_refl _)]
          simp
        · rw [if_neg fun z => c3 z.2.2, show (x.To + x.Len == q.At) = false from beq_eq_false_iff_ne.2 c3, j7f]
      · rw [if_neg c2, if_neg fun z => c2 z.2.1, j7f]
    · rw [if_neg c1, if_neg fun z => c1 z.1, j7f]
theorem Step_l0 (hk : 1000 < k) (hP : DevsOk P) : ∀ (n it t : Nat) (lb : List Pair) (D : List Device) (E : List Entry) (T : List (Nat × Pl)), it < n → lb.length + it ≤ 100 → Mv P d t T E D →
    ∃ r, move_Step.l0 k (poolOf P D0 d t0 E0 next) n (it : Int) lb D (t : Int) E = some r ∧ Out P d next r
  | 0, it, t, lb, D, E, T, hn, _, _ => by omega
  | n + 1, it, t, lb, D, E, T, hn, hb, h => by
    have hl := h.sets.len
    have pl := hP.1
    have hd := h.dev
    have o := h.setsOk hP
    have p1 := (hP.2 d (by omega) hd).1
    rw [move_Step.l0]
    by_cases c0 : 0 < it
    · rw [if_pos (by omega)]
      by_cases c : (t : Int) < (rd P (d : Int)).Size
      · rw [decide_eq_true (show (t : Int) < (poolOf P D0 d t0 E0 next).Job.Table.Size from c)]
        have p2 := p1.size
        have wi : w64 ((it : Int) - 1) = ((it - 1 : Nat) : Int) := w64_pred (n := it) c0 (Nat.le_refl _) (by omega)
        have wt : w64 ((t : Int) + 1) = ((t + 1 : Nat) : Int) := w64_succ (n := 64) (by omega) (by omega)
        unfold move_Step.j0
        rw [if_pos rfl, show room_Find.f k D (poolOf P D0 d t0 E0 next).Job.Dev = some ((d : Int), true) from D_find hk hP h.sets o hd]
        simp only [Option.bind_some]
        obtain ⟨u, eu, hu⟩ := Busy_eq hk hP h.sets hd
        rw [if_pos (by omega), eu]
        simp only [Option.bind_some]
        rw [S.SetHas_eq hu]
        simp only [Option.bind_some]
        have val : (S.inNum (t : Int) && (decide ((((t : Int).toNat : Nat) : Int) < (rd P (d : Int)).Size) && !(left (Gs P) (T.map Prod.snd) d (t : Int).toNat || false))) = !Gs P d t := by
          rw [Int.toNat_natCast, h.low, decide_eq_true c, show S.inNum (t : Int) = true from S.inNum_iff.2 ⟨by omega, by omega⟩]
          simp
        rw [val]
        cases g : Gs P d t
        · rw [if_pos (by rfl)]
          rw [show room_Free.f k D (poolOf P D0 d t0 E0 next).Job.Dev = _ from Free_eq (no := (rd P (d : Int)).ID) hk hP h.sets]
          simp only [Option.bind_some]
          by_cases z : ((tot P (rd P (d : Int)).ID (left (Gs P) (T.map Prod.snd)) P.length : Nat) : Int) < 1
          · rw [if_pos z]
            unfold move_Step.j2 move_Step.j1
            rw [if_neg (by simp), if_neg (by simp)]
            exact ⟨_, rfl, .inl (by simp)⟩
          · rw [if_neg z]
            rcases best_at P (rd P (d : Int)).ID (left (Gs P) (T.map Prod.snd)) P.length with ⟨_, _, z'⟩ | ⟨m, hm, e1, e2, e3, _⟩
            · omega
            · obtain ⟨k', hk'⟩ : ∃ k', k = k' + 2 := ⟨k - 2, by omega⟩
              obtain ⟨a, u', v, w, ha, h1, h2, eu', el, ev, es⟩ := one_step (no := (rd P (d : Int)).ID) hk hP h.sets hm e3
              rw [show ∀ re, move_Step.l1 k (poolOf P D0 d t0 E0 next) (it : Int) lb (t : Int) E re k D [] 0 = move_Step.l1 k (poolOf P D0 d t0 E0 next) (it : Int) lb (t : Int) E re (k' + 2) D [] 0 from fun re => by rw [← hk']]
              rw [move_Step.l1, if_pos (by decide), show room_emptiest.f k D (poolOf P D0 d t0 E0 next).Job.Dev = _ from emptiest_eq (no := (rd P (d : Int)).ID) hk hP h.sets, e1]
              simp only [Option.bind_some]
              rw [if_neg (by omega), if_pos (by omega), eu']
              simp only [Option.bind_some]
              rw [if_pos (by omega), el]
              simp only [Option.bind_some]
              rw [ev]
              simp only [Option.bind_some]
              rw [es]
              simp only [Option.bind_some]
              rw [if_pos (by omega)]
              rw [if_pos (by simp), h.sets.at_ m hm]
              simp only [Int.toNat_natCast]
              rw [move_Step.l1, if_neg (by decide)]
              have en : ∀ x ∈ E, -1000 ≤ x.From ∧ x.From ≤ 1000 ∧ 0 ≤ x.Len ∧ x.Len ≤ 1000 ∧ -1000 ≤ x.To ∧ x.To ≤ 1000 := fun x hx => by
                have q := W.T.tab_elem h.tab.tab x hx
                unfold W.T.EntOk at q
                omega
              rw [List.nil_append, show (⟨(rd P (m : Int)).ID, (a : Int)⟩ : Ptr) = place P (m, a) from rfl, Put_eq (by have := h.short hP; omega) en (by omega), wi, wt]
              have q := h.sets.set hm (b := fun i => left (Gs P) (T.map Prod.snd) m i && !decide (i = a)) (c := fun _ => false)
              have s' : Sets P (left (Gs P) ((T ++ [(t, (m, a))]).map Prod.snd)) (fun _ _ => false) (D.set m ⟨(rd P (m : Int)).ID, (rd P (m : Int)).Size, S.segsOf (fun i => left (Gs P) (T.map Prod.snd) m i && !decide (i = a)), S.segsOf (fun _ => false)⟩) := by
                rw [List.map_append, List.map_cons, List.map_nil]
                refine ⟨q.len, fun j hj => ?_⟩
                rw [q.at_ j hj]
                by_cases z : j = m
                · subst z
                  simp only [if_true]
                  rw [S.segsOf_congr (c := left (Gs P) (T.map Prod.snd ++ [(j, a)]) j) fun i _ => by rw [left_snoc]; simp]
                · simp only [if_neg z]
                  rw [S.segsOf_congr (c := left (Gs P) (T.map Prod.snd ++ [(m, a)]) j) fun i _ => by rw [left_snoc]; simp [z]]
              have pm := (hP.2 m (by omega) hm).1.id
              obtain ⟨tp, lk, keep⟩ := h.tab.put (q := place P (m, a)) c ⟨m, hm, rfl⟩ pm e2 (show 0 ≤ (a : Int) ∧ (a : Int) < 64 by omega)
              refine Step_l0 hk hP n (it - 1) (t + 1) _ _ _ (T ++ [(t, (m, a))]) (by omega) (by rw [List.length_append]; simp only [List.length_cons, List.length_nil]; omega) ⟨hd, ?_, s', fun s => ?_, fun x hx => ?_, tp, by omega⟩
              · rw [List.map_append, List.map_cons, List.map_nil]
                exact h.took.snoc hm e2 ha h1
              · constructor
                · rintro ⟨y, hy⟩
                  rcases List.mem_append.1 hy with w1 | w1
                  · have := (h.secs s).1 ⟨y, w1⟩
                    exact ⟨by omega, this.2⟩
                  · rw [List.mem_singleton] at w1
                    injection w1 with w1 _
                    subst w1
                    exact ⟨by omega, g⟩
                · rintro ⟨w1, w2⟩
                  by_cases w3 : s = t
                  · subst w3
                    exact ⟨_, List.mem_append_right _ (List.mem_singleton.2 rfl)⟩
                  · obtain ⟨y, hy⟩ := (h.secs s).2 ⟨by omega, w2⟩
                    exact ⟨y, List.mem_append_left _ hy⟩
              · rcases List.mem_append.1 hx with w1 | w1
                · exact keep _ _ (h.find x w1)
                · rw [List.mem_singleton] at w1
                  subst w1
                  exact lk
        · rw [if_neg (by simp)]
          unfold move_Step.j1
          rw [if_pos rfl, wi, wt]
          refine Step_l0 hk hP n (it - 1) (t + 1) lb D E T (by omega) (by omega) ⟨hd, h.took, h.sets, fun s => (h.secs s).trans ⟨fun w => ⟨by omega, w.2⟩, fun w => ⟨?_, w.2⟩⟩, h.find, h.tab.up, by omega⟩
          have : s ≠ t := fun z => by rw [z, g] at w; cases w.2
          omega
      · rw [decide_eq_false (show ¬ (t : Int) < (poolOf P D0 d t0 E0 next).Job.Table.Size from c)]
        exact Step_end hk hP h
    · rw [if_neg (by omega)]
      exact Step_end hk hP h
theorem Step_eq (hk : 1000 < k) (hP : DevsOk P) (h : Mv P d t T E D) (ht : (t : Int) < (rd P (d : Int)).Size) (hn : next ≤ 41) (hx : ∀ j : Nat, 0 ≤ j → j < P.length → (rd P (j : Int)).ID < next) (ho : P.length ≠ 1) :
    ∃ r, move_Step.f k (poolOf P D d t E next) 2 = some r ∧ Out P d next r := by
  have ok := h.poolOk hP ht hn hx ho
  have hD := h.sets.ok hP (h.setsOk hP)
  have sh := h.short hP
  have p1 := (hP.2 d (by omega) h.dev).1.id
  unfold move_Step.f
  rw [(May_says hk (pool_in hP h.dev hD (by omega))).1 ok]
  simp only [Option.bind_some, if_true]
  rw [chain_Own_eq hk hD rfl (show E.length ≤ 1000 by omega)]
  simp only [Option.bind_some]
  rw [if_neg (by decide), if_neg (by decide), if_neg (show ¬ (poolOf P D d t E next).Job.Dev = 0 from show ¬ (rd P (d : Int)).ID = 0 by omega)]
  exact Step_l0 hk hP k 2 t [] D E T (by omega) (by simp) h
end
end Go.Proofs.YtnaajldlloglkaaGreatDoor.W
namespace Go.Proofs.YtnaajldlloglkaaGreatDoor.W
open Go.H
structure UsedTo (P : List Device) (i s : Nat) (U : List Pl) : Prop where
  nd : U.Nodup
  mem : ∀ j a : Nat, (j, a) ∈ U ↔ (j < i ∨ (j = i ∧ a < s)) ∧ j < P.length ∧ (a : Int) < (rd P (j : Int)).Size ∧ Gs P j a = false
  len : U.length ≤ 64 * i + s
theorem used_l1 {p : Script} {k i : Nat} {re : List Ptr → Int → Option Bool} (hk : 1000 < k) (hP : DevsOk p.P.Devices) (hi : i < p.P.Devices.length) : ∀ (n s : Nat) (U : List Pl), UsedTo p.P.Devices i s U → (s : Int) ≤ (rd p.P.Devices (i : Int)).Size → (rd p.P.Devices (i : Int)).Size.toNat - s < n →
    ∃ U', UsedTo p.P.Devices (i + 1) 0 U' ∧ hermitagelaw10_MoveBack.l1 p k i re n (U.map (place p.P.Devices)) s = re (U'.map (place p.P.Devices)) ((i + 1 : Nat) : Int)
  | 0, s, U, _, _, h => by omega
  | n + 1, s, U, u, hs, hn => by
    have pl := hP.1
    have pd := (hP.2 i (by omega) hi).1
    have p1 := pd.size
    have sh := dev_short hP hi
    rw [hermitagelaw10_MoveBack.l1, if_pos (by omega)]
    by_cases c : (s : Int) < (rd p.P.Devices (i : Int)).Size
    · have s64 : s < 64 := by omega
      have ins : S.inNum (s : Int) = true := S.inNum_iff.2 ⟨by omega, by omega⟩
      have skip : Gs p.P.Devices i s = true → UsedTo p.P.Devices i (s + 1) U := fun g => ⟨u.nd, fun j a => (u.mem j a).trans ⟨fun z => ⟨by omega, z.2⟩, fun z => ⟨by
        rcases z.1 with y | y
        · exact .inl y
        · rcases Nat.lt_or_ge a s with w | w
          · exact .inr ⟨y.1, w⟩
          · have : a = s := by omega
            rw [y.1, this, g] at z
            exact absurd z.2.2.2 (by simp), z.2⟩⟩, by have := u.len; omega⟩
      have ws : w64 ((s : Int) + 1) = ((s + 1 : Nat) : Int) := w64_succ (n := 64) s64 (by omega)
      have go : ∀ U', UsedTo p.P.Devices i (s + 1) U' → ∃ U'', UsedTo p.P.Devices (i + 1) 0 U'' ∧ hermitagelaw10_MoveBack.j2 (s : Int) (hermitagelaw10_MoveBack.l1 p k i re n) (U'.map (place p.P.Devices)) = re (U''.map (place p.P.Devices)) ((i + 1 : Nat) : Int) := fun U' u' => by
        unfold hermitagelaw10_MoveBack.j2
        rw [ws]
        exact used_l1 hk hP hi n (s + 1) U' u' (by omega) (by omega)
      rw [if_pos c, if_pos (by omega), S.refHas_eq hk (by omega) pd.free.1]
      simp only [Option.bind_some]
      rw [ins, Bool.true_and, Int.toNat_natCast]
      cases f : S.mem (rd p.P.Devices (i : Int)).Free s
      · rw [if_neg (by simp), if_pos (by omega), S.refHas_eq hk (by omega) pd.late.1]
        simp only [Option.bind_some]
        rw [ins, Bool.true_and, Int.toNat_natCast]
        unfold hermitagelaw10_MoveBack.j3
        cases l : S.mem (rd p.P.Devices (i : Int)).Late s
        · have g : Gs p.P.Devices i s = false := by unfold Gs; rw [f, l]; rfl
          have nu : ¬ (i, s) ∈ U := fun z => by have := (u.mem i s).1 z; omega
          have ul := u.len
          rw [if_pos (by rfl), if_pos (by omega), if_pos (by rw [List.length_map]; omega)]
          have e : U.map (place p.P.Devices) ++ [(⟨(rd p.P.Devices (i : Int)).ID, (s : Int)⟩ : Ptr)] = (U ++ [(i, s)]).map (place p.P.Devices) := by rw [List.map_append]; rfl
          rw [e]
          refine go _ ⟨?_, fun j a => ?_, ?_⟩
          · rw [List.nodup_append]
            refine ⟨u.nd, by simp, fun x hx y hy e => ?_⟩
            rw [List.mem_singleton] at hy
            rw [e, hy] at hx
            exact nu hx
          · rw [List.mem_append, List.mem_singleton, u.mem j a]
            constructor
            · rintro (z | z)
              · exact ⟨by omega, z.2⟩
              · injection z with z1 z2
                subst z1
                subst z2
                exact ⟨.inr ⟨rfl, by omega⟩, hi, c, g⟩
            · rintro ⟨z1, z2⟩
              by_cases w : j = i ∧ a = s
              · obtain ⟨rfl, rfl⟩ := w
                exact .inr rfl
              · exact .inl ⟨by omega, z2⟩
          · rw [List.length_append]
            simp only [List.length_cons, List.length_nil]
            omega
        · rw [if_neg (by simp)]
          exact go U (skip (by unfold Gs; rw [l]; simp))
      · rw [if_pos rfl]
        unfold hermitagelaw10_MoveBack.j3
        rw [if_neg (by simp)]
        exact go U (skip (by unfold Gs; rw [f]; simp))
    · rw [if_neg c, w64_succ hi (by omega)]
      refine ⟨U, ⟨u.nd, fun j a => (u.mem j a).trans ⟨fun z => ⟨by omega, z.2⟩, fun z => ⟨?_, z.2⟩⟩, by have := u.len; omega⟩, rfl⟩
      rcases z.1 with y | y
      · rcases Nat.lt_or_ge j i with w | w
        · exact .inl w
        · have : j = i := by omega
          subst this
          exact .inr ⟨rfl, by omega⟩
      · omega
theorem used_l0 {p : Script} {k : Nat} (hk : 1000 < k) (hP : DevsOk p.P.Devices) : ∀ (n i : Nat) (U : List Pl), i ≤ p.P.Devices.length → p.P.Devices.length - i < n → UsedTo p.P.Devices i 0 U →
    ∃ U', AllUsed p.P.Devices U' ∧ U'.length ≤ 400 ∧ hermitagelaw10_MoveBack.l0 p k n (U.map (place p.P.Devices)) i = hermitagelaw10_MoveBack.l2 p k (U'.map (place p.P.Devices)) k 0
  | 0, i, U, _, h, _ => by omega
  | n + 1, i, U, hi, hn, u => by
    have pl := hP.1
    rw [hermitagelaw10_MoveBack.l0]
    by_cases c : i < p.P.Devices.length
    · rw [if_pos (by omega)]
      have p1 := (hP.2 i (by omega) c).1.size
      obtain ⟨U', u', e⟩ := used_l1 (re := hermitagelaw10_MoveBack.l0 p k n) hk hP c k 0 U u (by omega) (by omega)
      have e0 : ((0 : Nat) : Int) = 0 := rfl
      rw [e0] at e
      rw [e]
      exact used_l0 hk hP n (i + 1) U' (by omega) (by omega) u'
    · rw [if_neg (by omega)]
      have ul := u.len
      exact ⟨U, ⟨u.nd, fun j a => (u.mem j a).trans ⟨fun z => z.2, fun z => ⟨by omega, z⟩⟩⟩, by omega, rfl⟩
section
variable {p : Script} {k : Nat} {U : List Pl}
theorem refCommit_eq (hk : 1000 < k) (hp : PIn p.P) (hP : DevsOk p.P.Devices) : ∃ D, Sets p.P.Devices (Gs p.P.Devices) (fun _ _ => false) D ∧ hermitageref9_Commit.f k p.P = some ⟨D, p.P.Tables, p.P.Job, p.P.Next⟩ := by
  have pl := hP.1
  unfold hermitageref9_Commit.f
  rw [CopyPool_eq hk hp]
  simp only [Option.bind_some]
  unfold hermitageref7_Commit.f hermitageref0_CopyDevices.f
  have a : hermitageref0_CopyDevices.l0 p.P.Devices k k [] 0 = some p.P.Devices := CopyDs_l0 hk hp.devs_len hp.devs k 0 (by omega) (by omega)
  rw [a]
  simp only [Option.bind_some]
  have s := hP.sets
  obtain ⟨D, q, e⟩ := refCommit_l0 hk hP k 0 p.P.Devices (by omega) (by omega) (F := fun j => S.mem (rd p.P.Devices (j : Int)).Free) (L := fun j => S.mem (rd p.P.Devices (j : Int)).Late) ⟨s.len, fun j hj => (s.at_ j hj).trans (by simp)⟩
  have e0 : ((0 : Nat) : Int) = 0 := rfl
  rw [e0] at e
  rw [e]
  exact ⟨D, q, rfl⟩
theorem back_l3 {re : Int → Option Bool} {d : Nat} (hk : 1000 < k) (hp : PIn p.P) (ok : PoolOk p.P) (hj : p.P.Job.Dev = 0) (ht : p.P.Tables = []) (hU : AllUsed p.P.Devices U) (hl : U.length ≤ 400) (ho : p.P.Devices.length ≠ 1) {i : Int} : ∀ (n it t : Nat) (D : List Device) (E : List Entry) (T : List (Nat × Pl)), 3 - it < n → it ≤ 3 → Mv p.P.Devices d t T E D → (t : Int) < (rd p.P.Devices (d : Int)).Size →
    hermitagelaw10_MoveBack.l3 p k (U.map (place p.P.Devices)) i re n it D [] (rd p.P.Devices (d : Int)).ID t (rd p.P.Devices (d : Int)).ID (rd p.P.Devices (d : Int)).Size E p.P.Next = re (w64 (i + 1))
  | 0, it, t, D, E, T, h, _, _, _ => by omega
  | n + 1, it, t, D, E, T, hn, hi, h, hs => by
    have hP := ok.devs
    have pl := hP.1
    rw [hermitagelaw10_MoveBack.l3]
    by_cases c : it < 3
    · rw [if_pos (by omega)]
      obtain ⟨D', s', e'⟩ := Cancel_eq hk hP h hU hl hs ok.ids.max (fun j a b => ok.ids.devs j a b) ho
      rw [show move_Cancel.f k (⟨D, [], ⟨(rd p.P.Devices (d : Int)).ID, t, ⟨(rd p.P.Devices (d : Int)).ID, (rd p.P.Devices (d : Int)).Size, E⟩⟩, p.P.Next⟩ : Pool) (U.map (place p.P.Devices)) = _ from e']
      simp only [Option.bind_some, hermitagelaw10_num.f, if_true]
      obtain ⟨D2, s2, e2⟩ := refCommit_eq hk hp hP
      have idle : p.P.Job = ⟨0, 0, ⟨0, 0, []⟩⟩ := by
        rcases ok.job with z | ⟨m, z⟩
        · have h1 := z.dev
          have h2 := z.at0
          have h3 := z.tab
          generalize p.P.Job = x at h1 h2 h3
          obtain ⟨x1, x2, x3⟩ := x
          simp only at h1 h2 h3
          rw [h1, h2, h3]
        · exact absurd z (not_begun hP hj)
      have DD : D' = D2 := s'.ext s2 fun j i _ _ => ⟨rfl, rfl⟩
      rw [e2, ht, idle, ← DD]
      simp only [Option.bind_some]
      have oD := s'.ok hP hP.gs
      have dl := oD.1
      rw [EqPool_self hk ⟨devs_in oD, by show D'.length ≤ 1000; omega, Nat.zero_le _, fun t ht => absurd ht List.not_mem_nil, Nat.zero_le _, by show -9223372036854775808 ≤ (0 : Int) ∧ (0 : Int) < 9223372036854775808; omega⟩]
      simp only [Option.bind_some]
      rw [if_pos trivial]
      obtain ⟨r, er, out⟩ := Step_eq (next := p.P.Next) hk hP h hs ok.ids.max (fun j a b => ok.ids.devs j a b) ho
      rw [show move_Step.f k (⟨D, [], ⟨(rd p.P.Devices (d : Int)).ID, t, ⟨(rd p.P.Devices (d : Int)).ID, (rd p.P.Devices (d : Int)).Size, E⟩⟩, p.P.Next⟩ : Pool) 2 = _ from er]
      simp only [Option.bind_some, hermitagelaw10_num.f]
      have stop : hermitagelaw10_MoveBack.j6 i (it : Int) r re (hermitagelaw10_MoveBack.l3 p k (U.map (place p.P.Devices)) i re n) true = re (w64 (i + 1)) := by
        unfold hermitagelaw10_MoveBack.j6 hermitagelaw10_MoveBack.j4
        rw [if_pos rfl]
      by_cases r0 : r.2.2 = 0
      · rw [if_pos r0]
        by_cases rj : r.1.Job.Dev = 0
        · rw [show (r.1.Job.Dev == 0) = true from beq_iff_eq.2 rj]
          exact stop
        · rw [show (r.1.Job.Dev == 0) = false from beq_eq_false_iff_ne.2 rj]
          rcases out with z | z | ⟨_, t', E', T', D3, z, m, lt⟩
          · exact absurd r0 z
          · exact absurd z rj
          · unfold hermitagelaw10_MoveBack.j6
            rw [if_neg (by simp), z, w64_succ c (by omega)]
            exact back_l3 hk hp ok hj ht hU hl ho n (it + 1) t' D3 E' T' (by omega) (by omega) m lt
      · rw [if_neg r0]
        exact stop
    · rw [if_neg (by omega)]
      rfl
theorem back_l2 (hk : 1000 < k) (hp : PIn p.P) (ok : PoolOk p.P) (hj : p.P.Job.Dev = 0) (ht : p.P.Tables = []) (hU : AllUsed p.P.Devices U) (hl : U.length ≤ 400) (hw : hermitagelaw10_wakes.f k = some true) (hz : hermitagelaw9_Heavy.f k ⟨⟨[], [], ⟨0, 0, ⟨0, 0, []⟩⟩, 0⟩, []⟩ = some false) : ∀ (n i : Nat), i ≤ p.P.Devices.length → p.P.Devices.length - i < n → hermitagelaw10_MoveBack.l2 p k (U.map (place p.P.Devices)) n i = some true
  | 0, i, _, h => by omega
  | n + 1, i, hi, hn => by
    have hP := ok.devs
    have pl := hP.1
    rw [hermitagelaw10_MoveBack.l2]
    by_cases c : i < p.P.Devices.length
    · rw [if_pos (by omega), if_pos (by omega)]
      obtain ⟨r, e, out⟩ := Remove_eq hk hp ok ht hj c
      have next : hermitagelaw10_MoveBack.l2 p k (U.map (place p.P.Devices)) n (w64 ((i : Int) + 1)) = some true := by
        rw [w64_succ c (by omega)]
        exact back_l2 hk hp ok hj ht hU hl hw hz n (i + 1) (by omega) (by omega)
      rw [e]
      simp only [Option.bind_some]
      unfold hermitagelaw10_MoveBack.j5 hermitagelaw10_num.f
      simp only [Option.bind_some]
      by_cases r0 : r.2 = 0
      · rw [if_pos r0]
        rcases out with z | ⟨ho, _, D, z, m⟩
        · exact absurd r0 z
        · have p1 := (hP.2 i (by omega) c).1.size
          rw [z]
          exact (back_l3 hk hp ok hj ht hU hl ho k 0 0 D [] [] (by omega) (by omega) m (by omega)).trans next
      · rw [if_neg r0]
        exact next
    · rw [if_neg (by omega), hz]
      simp only [Option.bind_some]
      rw [if_neg (by simp), hw]
      rfl
theorem Back_k (hk : 1100 < k) (hw : hermitagelaw10_wakes.f k = some true) (hz : hermitagelaw9_Heavy.f k ⟨⟨[], [], ⟨0, 0, ⟨0, 0, []⟩⟩, 0⟩, []⟩ = some false) (hin : PIn p.P) (hh : hermitagelaw10_Heavy.f k p = some false) : hermitagelaw10_MoveBack.f k p = some true := by
  unfold hermitagelaw10_MoveBack.f
  rw [hh]
  simp only [Option.bind_some]
  rw [if_neg (by simp)]
  by_cases ok : PoolOk p.P
  · rw [(Pool_says hk hin).1 ok]
    simp only [Option.bind_some]
    unfold hermitagelaw10_MoveBack.j0
    rw [if_neg (by simp)]
    have wake : hermitagelaw10_MoveBack.j1 p k true = some true := by
      unfold hermitagelaw10_MoveBack.j1
      rw [if_pos rfl, hw]
      rfl
    by_cases hj : p.P.Job.Dev = 0
    · rw [if_pos hj]
      by_cases ht : p.P.Tables = []
      · rw [ht, decide_eq_false (by simp)]
        unfold hermitagelaw10_MoveBack.j1
        rw [if_neg (by simp)]
        have hP := ok.devs
        have pl := hP.1
        obtain ⟨U, hU, hl, e⟩ := used_l0 (k := k) (by omega) hP k 0 [] (by omega) (by omega) ⟨List.nodup_nil, fun j a => by simp, by simp⟩
        have e0 : ((0 : Nat) : Int) = 0 := rfl
        rw [e0, List.map_nil] at e
        rw [e]
        exact back_l2 (by omega) hin ok hj ht hU hl hw hz k 0 (by omega) (by omega)
      · have : 0 < p.P.Tables.length := List.length_pos_iff.2 ht
        rw [decide_eq_true (by omega)]
        exact wake
    · rw [if_neg hj]
      exact wake
  · rw [(Pool_says hk hin).2 ok]
    rfl
end
set_option maxRecDepth 100000 in
theorem wakes10 : hermitagelaw10_wakes.f 1500 = some true := by decide +kernel
set_option maxRecDepth 100000 in
theorem zero9 : hermitagelaw9_Heavy.f 1500 ⟨⟨[], [], ⟨0, 0, ⟨0, 0, []⟩⟩, 0⟩, []⟩ = some false := by decide +kernel
theorem MoveBack_plain {p : Script} (hs : Sized p) : ∃ k, hermitagelaw10_MoveBack.f k p = some true := by
  obtain ⟨h, e, hl⟩ := Heavy_eq (k := p.P.Devices.length + p.P.Tables.length + p.A.length + 1) hs (by omega) (by omega) (by omega)
  cases h
  · have lt := hl rfl
    obtain ⟨h', e', _⟩ := Heavy_eq (k := 1500) hs (by have := lt.D; omega) (by have := lt.T; omega) (by have := lt.A; omega)
    cases h'
    · exact ⟨1500, Back_k (by omega) wakes10 zero9 lt.inn e'⟩
    · exact ⟨1500, by unfold hermitagelaw10_MoveBack.f; rw [e']; rfl⟩
  · exact ⟨_, by unfold hermitagelaw10_MoveBack.f; rw [e]; rfl⟩
end Go.Proofs.YtnaajldlloglkaaGreatDoor.W
