/- Walking by explicit rules, part K: a slice's beginning. Plain theorems over any program. -/
import Derived.Test.YtnaajldlloglkaaDoorHJ
set_option linter.unusedVariables false
set_option linter.unusedSimpArgs false
namespace Go.H
open Go.RowKit
theorem Sl.take {α : Type} {d : Kd α} {h : Heap} {ok : Fp} {A : Option Addr} {xs : List α} (k : Sl d h ok A xs) (n : Nat) : Sl d h ok A (xs.take n) := fun i x hx => by
  rw [List.getElem?_take] at hx
  split at hx
  · exact k i x hx
  · cases hx
theorem take_le {α : Type} {xs : List α} {c : Nat} (h : xs.length ≤ c) (n : Nat) : (xs.take n).length ≤ c := by rw [List.length_take]; omega
theorem addA_zero (a : Addr) : addA a 0 = a := by rw [addA_eq, add_zero]
section
variable {P : Program} {N : Nat} {Q : Exit → Act → World → Prop} {E : Env} {w : World} {ops : List Oper} {tab : Tab} {α : Type}
/-- 'x[:j]'. -/
theorem RW.sliceTo {i d : Nat} {o : Oper} {r : OT} {T e : TypeId} {x y : Operand} {t te : Ti} {A : Option Addr} {xs : List α} {c : Nat} {k : IntKind} {j : Int} (hT : TabOk P tab) (h0 : 0 ≤ j) (h1 : j ≤ xs.length) (hc : xs.length ≤ c) (hn : Nx ops N E i o d) (hop : o.op = .slice T x none (some y) none) (hg : tab.get T = some t) (hti : t.ti = .slice e) (hge : tab.get e = some te) (hx : ev E x = some (.slice A xs.length c)) (hy : ev E y = some (.int k j))
    (h : RW P N ops Q r ((d, .slice A (xs.take j.toNat).length c) :: E) w) : RW P N ops Q (.one i .W r) E w :=
  RW.stepW hn (fun ρ hρ w' => by
    obtain ⟨d, hd, ho⟩ := (hT.get hg).desc
    rw [hti] at ho
    cases ho
    have e1 : (xs.take j.toNat).length = j.toNat := by rw [List.length_take]; omega
    have e2 : j ≤ (c : Int) := by omega
    have e3 : (if c = 0 then A else A.map fun x => x.add 0) = A := by cases A <;> simp [add_zero]
    unfold execOp
    simp [hop, hρ x _ hx, hρ y _ hy, Instr.sliceAt, Instr.slice, Instr.sliceBounds, Instr.sliceBound, asIntOf, underlying, hd, h0, e2, (hT.get hge).run_sizeOf, e1, e3]) h
theorem RW.storeElL0 {d : Kd α} {i : Nat} {o : Oper} {r : OT} {T0 e : TypeId} {t0 : Ti} {x z : Operand} {l li lv : List Seg3} {A : Option Addr} {ad : Addr} {c : Nat} {xs : List α} {j : Nat} {v : Value} {y : α} (hT : TabOk P tab) (hO : Ow d e w.heap (okL l) (okL li) A c xs) (hj : j < xs.length) (z0 : α) (us : List Value)
    (hy : ∀ cs ok', d.rep w.heap ok' cs (xs.getD j z0) → 0 + us.length ≤ cs.length ∧ d.rep w.heap (orS ok' (okL lv)) (lay cs 0 us) y) (hap : allD e lv l)
    (hn : Nx0 ops E i o) (hop : o.op = .store T0 x z) (hg : tab.get T0 = some t0) (hA : A = some ad) (hx : ev E x = some (.pointer (some (ad.add (j * d.sz))))) (hz : ev E z = some v) (hu : v.cells = us.toArray) (hl : us.length = t0.size) (h1 : us.all Value.oneCell' = true)
    (h : ∀ w', Upd (rowS (okL l) e) w w' → Ow d e w'.heap (okL l) (okL (li ++ lv)) A c (xs.set j y) → RW P N ops Q r E w') : RW P N ops Q (.one i .M r) E w :=
  RW.storeElL hT hO hj z0 us hy hap hn hop hg hA (by rw [addA_zero]; exact hx) hz hu hl h1 h
end
end Go.H
