/- Walking by explicit rules, part T: structs of structs compared; tails of rows. Plain theorems over any program. -/
import Derived.Test.YtnaajldlloglkaaDoorHS
set_option linter.unusedVariables false
set_option linter.unusedSimpArgs false
namespace Go.H
open Go.RowKit
section
variable {P : Program} {tab : Tab}
theorem run_partAgg {T : TypeId} {t : Ti} (hk : TiOk P T t) (ha : t.ti.agg = true) (cs : List Value) (off : Nat) (w : World) : (part T cs.toArray off).run P w = .ok (.agg ((cs.drop off).take t.size).toArray) w := by
  unfold part
  rw [Sem.run_bind, hk.run_isAgg, ha]
  have e : cs.toArray.extract off (off + t.size) = ((cs.drop off).take t.size).toArray := by
    apply Array.ext'
    simp
  simp [hk.run_sizeOf, e]
theorem run_equalFlatD (hT : TabOk P tab) {T : TypeId} {fs : Array Field} (hu : P.underlying T = some (.struct fs)) (hs : P.stoodInHeld T = false) (cs ds : List Value) {b : Bool} (hf : flatEq tab cs ds fs.toList = some b) (d : Nat) (w : World) : (Op.equalIn (d + 2) T (.agg cs.toArray) (.agg ds.toArray)).run P w = .ok b w := by
  have e : P.fieldsOf T = fs := by unfold Program.fieldsOf; rw [hu]
  rw [run_equalIn_struct w (d + 1) T _ _ (by rw [e]; exact hu) hs, e]
  exact run_flatEq hT cs ds w d hf
theorem run_equal2 (hT : TabOk P tab) {T : TypeId} {f1 f2 : Field} {t1 t2 : Ti} (hu : P.underlying T = some (.struct #[f1, f2])) (hs : P.stoodInHeld T = false) (n1 : f1.name ≠ "_") (n2 : f2.name ≠ "_") (g1 : tab.get f1.type = some t1) (g2 : tab.get f2.type = some t2) (a1 : t1.ti.agg = true) (a2 : t2.ti.agg = true) (cs ds : List Value) {b1 b2 : Bool}
    (h1 : ∀ w, (Op.equalIn 9999 f1.type (.agg ((cs.drop f1.offset).take t1.size).toArray) (.agg ((ds.drop f1.offset).take t1.size).toArray)).run P w = .ok b1 w)
    (h2 : ∀ w, (Op.equalIn 9999 f2.type (.agg ((cs.drop f2.offset).take t2.size).toArray) (.agg ((ds.drop f2.offset).take t2.size).toArray)).run P w = .ok b2 w) (w : World) :
    (Op.equalIn 10000 T (.agg cs.toArray) (.agg ds.toArray)).run P w = .ok (b1 && b2) w := by
  have e : P.fieldsOf T = #[f1, f2] := by unfold Program.fieldsOf; rw [hu]
  rw [run_equalIn_struct w 9999 T _ _ (by rw [e]; exact hu) hs, e]
  have p1 := run_partAgg (hT.get g1) a1 cs f1.offset w
  have p2 := run_partAgg (hT.get g1) a1 ds f1.offset w
  have p3 := run_partAgg (hT.get g2) a2 cs f2.offset w
  have p4 := run_partAgg (hT.get g2) a2 ds f2.offset w
  unfold Op.eqFields
  rw [if_pos n1]
  simp only [Sem.run_bind, p1, Result.andThen_ok, p2, h1 w]
  cases b1
  · simp
  · simp only [Bool.not_true, Bool.false_eq_true, if_false]
    unfold Op.eqFields
    rw [if_pos n2]
    simp only [Sem.run_bind, p3, Result.andThen_ok, p4, h2 w]
    cases b2
    · simp
    · simp only [Bool.not_true, Bool.false_eq_true, if_false]
      unfold Op.eqFields
      rfl
end
section
variable {α : Type} {d : Kd α} {h : Heap} {ok oi : Fp} {A : Option Addr} {c : Nat} {xs : List α} {T : TypeId}
theorem Ch.drop {fl : List Value} (k : Ch d h ok fl xs) {j : Nat} (hj : j ≤ xs.length) : Ch d h ok (fl.drop (j * d.sz)) (xs.drop j) := by
  refine ⟨?_, fun i x hx => ?_⟩
  · rw [List.length_drop, List.length_drop, k.1, Nat.sub_mul]
  · rw [List.getElem?_drop] at hx
    obtain ⟨cs, hr, hc⟩ := k.2 (j + i) x hx
    refine ⟨cs, hr, fun q u hu => ?_⟩
    rw [List.getElem?_drop, ← Nat.add_assoc, ← Nat.add_mul]
    exact hc q u hu
/-- The elements from a place on. -/
theorem Ow.chTail {l li : List Seg3} {j : Nat} (k : Ow d T h (okL l) (okL li) A c xs) (hj : j ≤ xs.length) : ∃ yc, Ch d h (okL li) yc (xs.drop j) ∧ (0 < (xs.drop j).length → ∃ ad, (if c = j then A else Option.map (fun q => q.add (j * d.sz)) A) = some ad ∧ At h ad yc) := by
  rcases k with ⟨rfl, rfl⟩ | ⟨b, cur, fl, rfl, h1, h2, h3, h4, h5, h6, h7⟩
  · exact ⟨[], by rw [List.drop_nil]; exact Ch.nil, fun h0 => by simp at h0⟩
  · refine ⟨fl.drop (j * d.sz), (h7.mono fun _ _ ho => ho.1).drop hj, fun h0 => ?_⟩
    rw [List.length_drop] at h0
    have hcj : ¬ c = j := by omega
    rw [if_neg hcj]
    refine ⟨_, rfl, fun q u hu => ?_⟩
    rw [add_add, add_lit0, cellH_block h4]
    rw [List.getElem?_drop, ← h6, List.getElem?_take] at hu
    split at hu
    · simpa using hu
    · cases hu
end
end Go.H
