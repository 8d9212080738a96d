/- Walking by explicit rules, part H: calls, words for numbers, elements of scalar slices. Plain theorems over any program. -/
import Derived.Test.YtnaajldlloglkaaDoorHG
set_option linter.unusedVariables false
set_option linter.unusedSimpArgs false
namespace Go.H
open Go.RowKit
/-- A whole number, wrapped. -/
abbrev w64 (x : Int) : Int := IntKind.i64.wrap x
abbrev wu64 (x : Int) : Int := IntKind.u64.wrap x
def uand (a b : Int) : Int := IntKind.u64.wrap (BitVec.ofInt IntKind.u64.bits a &&& BitVec.ofInt IntKind.u64.bits b).toNat
def uor (a b : Int) : Int := IntKind.u64.wrap (BitVec.ofInt IntKind.u64.bits a ||| BitVec.ofInt IntKind.u64.bits b).toNat
def uandn (a b : Int) : Int := IntKind.u64.wrap (BitVec.ofInt IntKind.u64.bits a &&& ~~~BitVec.ofInt IntKind.u64.bits b).toNat
def iand (a b : Int) : Int := IntKind.i64.wrap (BitVec.ofInt IntKind.i64.bits a &&& BitVec.ofInt IntKind.i64.bits b).toNat
def ior (a b : Int) : Int := IntKind.i64.wrap (BitVec.ofInt IntKind.i64.bits a ||| BitVec.ofInt IntKind.i64.bits b).toNat
def iandn (a b : Int) : Int := IntKind.i64.wrap (BitVec.ofInt IntKind.i64.bits a &&& ~~~BitVec.ofInt IntKind.i64.bits b).toNat
theorem slice_len {A : Option Addr} {c n m : Nat} (h : n = m) : Value.slice A n c = Value.slice A m c := by rw [h]
section
variable {P : Program} {N : Nat} {Q : Exit → Act → World → Prop} {E : Env} {w : World} {ops : List Oper} {tab : Tab}
/-- A call of a function told by its number. -/
theorem RW.callF {i d : Nat} {o : Oper} {r : OT} {c : Cls} {as : Array Operand} {ts : Array TypeId} {f : FuncId} {args : List Value} {R : Ending → World → Prop} (hc : c = .X ∨ c = .M) (he : Enters P f) (hn : Nx ops N E i o d) (hop : o.op = .call ⟨.value (.func f), as, ts⟩)
    (ha : evs E as.toList = some args) (hR : Calls P f args.toArray w R)
    (h : ∀ e w', R e w' → ∃ v, e = .returned v ∧ Ext w w' ∧ RW P N ops Q r ((d, v) :: E) w') : RW P N ops Q (.one i c r) E w :=
  RW.call (first := #[]) (cap := #[]) hc he hn hop rfl ha (by simpa using hR) h
end
section
variable {h : Heap} {ok : Fp} {A : Option Addr}
theorem at_int {k : IntKind} {xs : List Int} (s : Sl (Kd.int k) h ok A xs) {i : Int} (h0 : 0 ≤ i) (h1 : i < (xs.length : Int)) : ∃ ad, A = some ad ∧ At h (ad.add (i.toNat * 1)) [.int k (rd xs i)] := by
  obtain ⟨ad, cs, e, hr, hA⟩ := s.at_ h0 h1 default
  cases hr
  exact ⟨ad, e, hA⟩
theorem at_i64 {xs : List Int} (s : Sl (Kd.int .i64) h ok A xs) {i : Int} (h0 : 0 ≤ i) (h1 : i < (xs.length : Int)) : ∃ ad, A = some ad ∧ At h (ad.add (i.toNat * 1)) [.int .i64 (rd xs i)] := at_int s h0 h1
theorem at_u8 {xs : List Int} (s : Sl (Kd.int .u8) h ok A xs) {i : Int} (h0 : 0 ≤ i) (h1 : i < (xs.length : Int)) : ∃ ad, A = some ad ∧ At h (ad.add (i.toNat * 1)) [.int .u8 (rd xs i)] := at_int s h0 h1
theorem at_u64 {xs : List Int} (s : Sl (Kd.int .u64) h ok A xs) {i : Int} (h0 : 0 ≤ i) (h1 : i < (xs.length : Int)) : ∃ ad, A = some ad ∧ At h (ad.add (i.toNat * 1)) [.int .u64 (rd xs i)] := at_int s h0 h1
theorem at_bool {xs : List Bool} (s : Sl Kd.bool h ok A xs) {i : Int} (h0 : 0 ≤ i) (h1 : i < (xs.length : Int)) : ∃ ad, A = some ad ∧ At h (ad.add (i.toNat * 1)) [.bool (rd xs i)] := by
  obtain ⟨ad, cs, e, hr, hA⟩ := s.at_ h0 h1 default
  cases hr
  exact ⟨ad, e, hA⟩
end
end Go.H
