/- Plain facts: copies, tables compared, a sector laid behind all others. -/
import Derived.Test.YtnaajldlloglkaaTabP1
set_option linter.unusedVariables false
set_option linter.unusedSimpArgs false
namespace Go.Proofs.Ytnaajldlloglkaa.W
open Go.H
theorem Clone_eq {l : List Entry} (hl : l.length ≤ 1000) : slices_Clone_Entry.f l = some l := by
  unfold slices_Clone_Entry.f
  rw [if_pos (by simp; omega)]
  rfl
theorem Own_eq {t : Table} (hl : t.List_.length ≤ 1000) : table_Own.f t = some t := by
  unfold table_Own.f
  rw [Clone_eq hl]
  rfl
theorem CopyE_l0 {l : List Entry} (hl : l.length ≤ 1000) : ∀ (n i : Nat), i ≤ l.length → l.length - i < n → hermitageref0_CopyEntries.l0 l n (l.take i) i = some l
  | 0, i, _, h => by omega
  | n + 1, i, hi, hn => by
    unfold hermitageref0_CopyEntries.l0
    by_cases c : i < l.length
    · have e : l.take i ++ [l[i]] = l.take (i + 1) := (List.take_succ_eq_append_getElem c).symm
      rw [if_pos (by omega), if_pos ⟨by omega, by omega⟩, rd_nat c, if_pos (by rw [List.length_take]; omega), e, w64_succ c (by omega)]
      exact CopyE_l0 hl n (i + 1) (by omega) (by omega)
    · rw [if_neg (by omega), List.take_of_length_le (by omega)]
theorem CopyT_eq {t : Table} {k : Nat} (hl : t.List_.length ≤ 1000) (hk : 1000 < k) : hermitageref0_CopyTable.f k t = some t := by
  unfold hermitageref0_CopyTable.f hermitageref0_CopyEntries.f
  have := CopyE_l0 hl k 0 (by omega) (by omega)
  rw [List.take_zero] at this
  rw [show (0 : Int) = ((0 : Nat) : Int) from rfl, this]
  rfl
theorem EqE_l0 {l m : List Entry} (hl : l.length < 4611686018427387904) (e : l.length = m.length) : ∀ (n i : Nat), i ≤ l.length → l.length - i < n → hermitageref0_EqEntries.l0 l m n i = some (decide (l.drop i = m.drop i))
  | 0, i, _, h => by omega
  | n + 1, i, hi, hn => by
    unfold hermitageref0_EqEntries.l0
    by_cases c : i < l.length
    · have c2 : i < m.length := by omega
      rw [if_pos (by omega), if_pos ⟨by omega, by omega⟩, if_pos ⟨by omega, by omega⟩, rd_nat c, rd_nat c2, List.drop_eq_getElem_cons c, List.drop_eq_getElem_cons c2]
      by_cases h : l[i] = m[i]
      · rw [if_pos h, w64_succ c hl, EqE_l0 hl e n (i + 1) (by omega) (by omega)]
        congr 1
        rw [decide_eq_decide, List.cons.injEq]
        exact ⟨fun hh => ⟨h, hh⟩, fun hh => hh.2⟩
      · rw [if_neg h]
        congr 1
        symm
        rw [decide_eq_false_iff_not, List.cons.injEq]
        exact fun hh => h hh.1
    · rw [if_neg (by omega), List.drop_eq_nil_of_le (by omega), List.drop_eq_nil_of_le (by omega)]
      simp
theorem EqE_eq {l m : List Entry} {k : Nat} (hl : l.length ≤ 1000) (hk : 1000 < k) : hermitageref0_EqEntries.f k l m = some (decide (l = m)) := by
  unfold hermitageref0_EqEntries.f
  by_cases e : (l.length : Int) = (m.length : Int)
  · rw [if_pos e]
    exact EqE_l0 (by omega) (by omega) k 0 (by omega) (by omega)
  · rw [if_neg e]
    have : ¬ l = m := fun h => e (by rw [h])
    simp [this]
theorem EqT_eq {t u : Table} {k : Nat} (hl : t.List_.length ≤ 1000) (hk : 1000 < k) : hermitageref0_EqTable.f k t u = some (decide (t = u)) := by
  obtain ⟨a, b, l⟩ := t
  obtain ⟨c, d, m⟩ := u
  unfold hermitageref0_EqTable.f
  by_cases h1 : a = c
  · by_cases h2 : b = d
    · rw [if_pos h1, if_pos h2, EqE_eq hl hk]
      simp [h1, h2]
    · rw [if_pos h1, if_neg h2]; simp [h2]
  · rw [if_neg h1]; simp [h1]
/-- Where the last entry ends. -/
def endOf : List Entry → Int
  | [] => 0
  | [x] => x.From + x.Len
  | _ :: y :: r => endOf (y :: r)
theorem endOf_snoc {l : List Entry} {x : Entry} : endOf (l ++ [x]) = x.From + x.Len := by
  induction l with
  | nil => rfl
  | cons a r ih =>
    cases r with
    | nil => rfl
    | cons b q => exact ih
theorem rd_last {l : List Entry} {x : Entry} : rd (l ++ [x]) ((l.length : Nat) : Int) = x := by rw [rd_nat (by simp)]; simp
theorem last_len {l : List Entry} {x : Entry} (hl : (l ++ [x]).length ≤ 1000) : w64 (((l ++ [x]).length : Int) - 1) = ((l.length : Nat) : Int) := by
  rw [List.length_append] at hl ⊢
  simp only [List.length_cons, List.length_nil] at hl ⊢
  rw [w64_id (by omega) (by omega)]; omega
theorem last_lt {l : List Entry} {x : Entry} : ((l.length : Nat) : Int) < ((l ++ [x]).length : Int) := by rw [List.length_append]; simp only [List.length_cons, List.length_nil]; omega
theorem End_eq {t : Table} (hl : t.List_.length ≤ 1000) (h : tabOk' t = true) : hermitageref7_End.f t = some (endOf t.List_) := by
  obtain ⟨d, s, l⟩ := t
  unfold hermitageref7_End.f
  simp only at hl ⊢
  have ht := (tabOk_iff.1 h)
  simp only at ht
  rcases snoc_cases l with rfl | ⟨m, x, rfl⟩
  · rfl
  · have hx := tab_elem ht.2 x (by simp)
    unfold EntOk at hx
    rw [last_len hl, if_neg (by simp; omega), if_pos ⟨by omega, last_lt⟩, rd_last, w64_id (by omega) (by omega), endOf_snoc]
def entNew (n : Int) (p : Ptr) : Entry := ⟨n, 1, p.Dev, p.At, 0⟩
def entMore (x : Entry) : Entry := ⟨x.From, x.Len + 1, x.Dev, x.To, x.Stale⟩
/-- A sector behind all others. -/
def putL : List Entry → Int → Ptr → List Entry
  | [], n, p => [entNew n p]
  | [x], n, p => if x.From + x.Len = n ∧ x.Dev = p.Dev ∧ x.To + x.Len = p.At then [entMore x] else [x, entNew n p]
  | x :: y :: r, n, p => x :: putL (y :: r) n p
theorem putL_snoc {l : List Entry} {x : Entry} {n : Int} {p : Ptr} : putL (l ++ [x]) n p = if x.From + x.Len = n ∧ x.Dev = p.Dev ∧ x.To + x.Len = p.At then l ++ [entMore x] else l ++ [x] ++ [entNew n p] := by
  induction l with
  | nil => rfl
  | cons a r ih =>
    cases r with
    | nil =>
      simp only [List.cons_append, List.nil_append, putL]
      split <;> rfl
    | cons b q =>
      simp only [List.cons_append] at ih ⊢
      rw [putL, ih]
      split <;> rfl
theorem set_last {l : List Entry} {x y : Entry} : (l ++ [x]).set l.length y = l ++ [y] := by simp
theorem putL_len {l : List Entry} {n : Int} {p : Ptr} : (putL l n p).length ≤ l.length + 1 := by
  rcases snoc_cases l with rfl | ⟨m, x, rfl⟩
  · simp [putL]
  · rw [putL_snoc]; split <;> simp
def addOk (t : Table) (n : Int) (p : Ptr) : Bool := tabOk' t && (decide (endOf t.List_ ≤ n) && (decide (n < t.Size) && decide (EntOk t.Dev t.Size (entNew n p))))
def zeroT : Table := ⟨0, 0, []⟩
theorem AddJ3 {t : Table} {n : Int} {p : Ptr} (hl : t.List_.length ≤ 999) : table_Add.j3 n p t = some (⟨t.Dev, t.Size, t.List_ ++ [entNew n p]⟩, 0) := by
  unfold table_Add.j3 table_Add.j2
  rw [if_pos (by omega)]
  rfl
theorem Add_put {t : Table} {n : Int} {p : Ptr} (hl : t.List_.length ≤ 999) (h : tabOk' t = true) : table_Add.j1 t n p false = some (⟨t.Dev, t.Size, putL t.List_ n p⟩, 0) := by
  unfold table_Add.j1
  rw [if_neg (by decide), Own_eq (by omega)]
  simp only [Option.bind_some]
  have ht := (tabOk_iff.1 h)
  obtain ⟨d, s, l⟩ := t
  simp only at hl ht ⊢
  rcases snoc_cases l with rfl | ⟨m, x, rfl⟩
  · rw [if_neg (by decide), AddJ3 (by simp)]; rfl
  · have hx := tab_elem ht.2 x (by simp)
    unfold EntOk at hx
    rw [last_len (by omega), if_pos (by omega), if_pos ⟨by omega, last_lt⟩, rd_last]
    unfold table_end.f
    simp only [Option.bind_some]
    rw [w64_id (x := x.From + x.Len) (by omega) (by omega), w64_id (x := x.To + x.Len) (by omega) (by omega), putL_snoc]
    have no : table_Add.j4 n p ⟨d, s, m ++ [x]⟩ false = some (⟨d, s, m ++ [x] ++ [entNew n p]⟩, 0) := by
      unfold table_Add.j4
      rw [if_neg (by decide), AddJ3 hl]
    by_cases a1 : x.From + x.Len = n
    case neg => rw [if_neg a1, if_neg (fun hh => a1 hh.1)]; exact no
    rw [if_pos a1]
    by_cases a2 : x.Dev = p.Dev
    case neg => rw [if_neg a2, if_neg (fun hh => a2 hh.2.1)]; exact no
    rw [if_pos a2]
    by_cases a3 : x.To + x.Len = p.At
    case neg => rw [beq_f a3, if_neg (fun hh => a3 hh.2.2)]; exact no
    rw [beq_t a3, if_pos ⟨a1, a2, a3⟩]
    unfold table_Add.j4 table_Add.j2
    simp only [if_true]
    rw [last_len (by omega), if_pos ⟨by omega, last_lt⟩, if_pos ⟨by omega, last_lt⟩, rd_last, w64_id (by omega) (by omega), Int.toNat_natCast, set_last]
    rfl
theorem Add_j0 {t : Table} {k : Nat} {n y : Int} {p : Ptr} (hl : t.List_.length ≤ 999) (hk : 1000 < k) (hy : tabOk' t = true → y = endOf t.List_) : table_Add.j0 t n p k y = some (if addOk t n p = true then (⟨t.Dev, t.Size, putL t.List_ n p⟩, 0) else (zeroT, 1)) := by
  unfold table_Add.j0 addOk
  rw [May_eq (by omega) (by omega)]
  simp only [Option.bind_some]
  cases h : tabOk' t with
  | false => rfl
  | true =>
    rw [if_pos rfl, hy h]
    by_cases a1 : n < endOf t.List_
    · rw [if_pos a1, decide_eq_false (show ¬ endOf t.List_ ≤ n by omega)]; rfl
    rw [if_neg a1, decide_eq_true (show endOf t.List_ ≤ n by omega)]
    by_cases a2 : t.Size ≤ n
    · rw [if_pos a2, decide_eq_false (show ¬ n < t.Size by omega)]; rfl
    have ht := (tabOk_iff.1 h).1
    rw [if_neg a2, decide_eq_true (show n < t.Size by omega), entry_eq ht.2.2.1 ht.2.2.2]
    simp only [Option.bind_some]
    by_cases a3 : EntOk t.Dev t.Size (entNew n p)
    · rw [decide_eq_true (show EntOk t.Dev t.Size ⟨n, 1, p.Dev, p.At, 0⟩ from a3), decide_eq_true a3]
      exact Add_put hl h
    · rw [decide_eq_false (show ¬ EntOk t.Dev t.Size ⟨n, 1, p.Dev, p.At, 0⟩ from a3), decide_eq_false a3]
      rfl
theorem Add_eq {t : Table} {k : Nat} {n : Int} {p : Ptr} (hl : t.List_.length ≤ 999) (hk : 1000 < k) : table_Add.f k t n p = some (if addOk t n p = true then (⟨t.Dev, t.Size, putL t.List_ n p⟩, 0) else (zeroT, 1)) := by
  unfold table_Add.f
  rcases snoc_cases t.List_ with h | ⟨m, x, h⟩
  · rw [h, if_neg (by decide), ← h]
    exact Add_j0 hl hk (fun _ => by rw [h]; rfl)
  · have hl' : (m ++ [x]).length ≤ 1000 := by rw [← h]; omega
    rw [h, last_len hl', if_pos (by omega), if_pos ⟨by omega, last_lt⟩, rd_last]
    unfold table_end.f
    simp only [Option.bind_some]
    rw [← h]
    refine Add_j0 hl hk (fun ho => ?_)
    have hx := tab_elem (tabOk_iff.1 ho).2 x (by rw [h]; simp)
    unfold EntOk at hx
    have := (tabOk_iff.1 ho).1
    rw [h, endOf_snoc, w64_id (by omega) (by omega)]
theorem refAdd_eq {t : Table} {k : Nat} {n : Int} {p : Ptr} (hl : t.List_.length ≤ 999) (hk : 1000 < k) (h : tabOk' t = true) : hermitageref7_Add.f k t n p = some ⟨t.Dev, t.Size, putL t.List_ n p⟩ := by
  unfold hermitageref7_Add.f
  rw [CopyT_eq (by omega) hk]
  simp only [Option.bind_some]
  have ht := (tabOk_iff.1 h)
  have j0 : ∀ (t : Table), t.List_.length ≤ 999 → hermitageref7_Add.j0 n p t = some ⟨t.Dev, t.Size, t.List_ ++ [entNew n p]⟩ := fun t hl => by
    unfold hermitageref7_Add.j0
    rw [if_pos (by omega)]
    rfl
  obtain ⟨d, s, l⟩ := t
  simp only at hl ht ⊢
  rcases snoc_cases l with rfl | ⟨m, x, rfl⟩
  · rw [if_neg (by decide), j0 _ (by simp)]; rfl
  · have hx := tab_elem ht.2 x (by simp)
    unfold EntOk at hx
    rw [last_len (by omega), if_pos (by omega), if_pos ⟨by omega, last_lt⟩, rd_last]
    rw [w64_id (x := x.From + x.Len) (by omega) (by omega), w64_id (x := x.To + x.Len) (by omega) (by omega), putL_snoc]
    have no : hermitageref7_Add.j1 n p ⟨d, s, m ++ [x]⟩ false = some ⟨d, s, m ++ [x] ++ [entNew n p]⟩ := by
      unfold hermitageref7_Add.j1
      rw [if_neg (by decide), j0 _ hl]
    by_cases a1 : x.From + x.Len = n
    case neg => rw [if_neg a1, if_neg (fun hh => a1 hh.1)]; exact no
    rw [if_pos a1]
    by_cases a2 : x.Dev = p.Dev
    case neg => rw [if_neg a2, if_neg (fun hh => a2 hh.2.1)]; exact no
    rw [if_pos a2]
    by_cases a3 : x.To + x.Len = p.At
    case neg => rw [beq_f a3, if_neg (fun hh => a3 hh.2.2)]; exact no
    rw [beq_t a3, if_pos ⟨a1, a2, a3⟩]
    unfold hermitageref7_Add.j1
    simp only [if_true]
    rw [last_len (by omega), if_pos ⟨by omega, last_lt⟩, if_pos ⟨by omega, last_lt⟩, rd_last, w64_id (by omega) (by omega), Int.toNat_natCast, set_last]
    rfl
theorem Check_eq {t : Table} {k : Nat} (hl : t.List_.length ≤ 1000) (hk : 1000 < k) : table_Check.f k t = some (if tabOk' t = true then 0 else 1) := by
  unfold table_Check.f
  rw [May_eq (by omega) (by omega)]
  simp only [Option.bind_some]
  cases tabOk' t <;> rfl
theorem wakes_eq {k : Nat} (hk : 1000 < k) : hermitagelaw8_wakes.f k = some true := by
  unfold hermitagelaw8_wakes.f
  rw [Add_eq (by simp) hk]
  have e1 : addOk ⟨1, 4, []⟩ 0 ⟨2, 5⟩ = true := by decide
  rw [if_pos e1]
  simp only [Option.bind_some]
  rw [Add_eq (by decide) hk]
  have e2 : addOk ⟨1, 4, putL [] 0 ⟨2, 5⟩⟩ 1 ⟨2, 6⟩ = true := by decide
  rw [if_pos e2]
  simp only [Option.bind_some, hermitagelaw8_num.f, if_true]
  rfl
end Go.Proofs.Ytnaajldlloglkaa.W
