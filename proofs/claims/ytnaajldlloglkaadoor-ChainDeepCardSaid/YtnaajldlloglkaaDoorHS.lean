/- Walking by explicit rules, part S: stores of whole elements that tell the row's cells. Plain theorems over any program. -/
import Derived.Test.YtnaajldlloglkaaDoorHR
set_option linter.unusedVariables false
set_option linter.unusedSimpArgs false
namespace Go.H
open Go.RowKit
section
variable {P : Program} {N : Nat} {Q : Exit → Act → World → Prop} {E : Env} {w : World} {ops : List Oper} {tab : Tab} {α : Type} {d : Kd α}
theorem RW.storeElX0 {i : Nat} {o : Oper} {r : OT} {T0 e : TypeId} {t0 : Ti} {x z : Operand} {l li lv : List Seg3} {A : Option Addr} {ad : Addr} {c : Nat} {xs : List α} {j : Nat} {v : Value} {y : α} (hT : TabOk P tab) (hO : Ow d e w.heap (okL l) (okL li) A c xs) (hj : j < xs.length) (z0 : α) (us : List Value)
    (hy : ∀ cs ok', d.rep w.heap ok' cs (xs.getD j z0) → 0 + us.length ≤ cs.length ∧ d.rep w.heap (orS ok' (okL lv)) (lay cs 0 us) y) (hap : allD e lv l)
    (hn : Nx0 ops E i o) (hop : o.op = .store T0 x z) (hg : tab.get T0 = some t0) (hA : A = some ad) (hx : ev E x = some (.pointer (some (ad.add (j * d.sz))))) (hz : ev E z = some v) (hu : v.cells = us.toArray) (hl : us.length = t0.size) (h1 : us.all Value.oneCell' = true)
    (h : ∀ w', Upd (rowS (okL l) e) w w' → Laid d w w' e A j 0 us → Ow d e w'.heap (okL l) (okL (li ++ lv)) A c (xs.set j y) → RW P N ops Q r E w') : RW P N ops Q (.one i .M r) E w :=
  RW.storeElX hT hO hj z0 us hy hap hn hop hg hA (by rw [addA_zero]; exact hx) hz hu hl h1 h
end
end Go.H
