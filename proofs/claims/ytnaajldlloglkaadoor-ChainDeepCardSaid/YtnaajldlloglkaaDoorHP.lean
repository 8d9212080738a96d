/- Walking by explicit rules, part P: a row's own block as a set; rows that are apart. Plain theorems. -/
import Derived.Test.YtnaajldlloglkaaDoorHO
set_option linter.unusedVariables false
set_option linter.unusedSimpArgs false
namespace Go.H
/-- The block of a row, n where there is none. -/
def blk (n : Nat) (A : Option Addr) (c : Nat) : Nat := if c = 0 then n else match A with
  | some a => a.block
  | none => n
section
variable {α : Type} {d : Kd α} {T : TypeId} {w : World} {ok oi : Fp} {l li li' : List Seg3} {A : Option Addr} {c n : Nat} {xs : List α} {h : Heap}
theorem Ow.tight (n : Nat) (k : Ow d T h ok oi A c xs) : Ow d T h (okL [(blk n A c, some (blk n A c + min c 1), some T)]) oi A c xs := by
  rcases k with ⟨rfl, rfl⟩ | ⟨b, cur, fl, rfl, h1, h2, h3, h4, h5, h6, h7⟩
  · exact .inl ⟨rfl, rfl⟩
  · by_cases hc : c = 0
    · subst hc
      exact .inl ⟨List.length_eq_zero_iff.1 (by omega), rfl⟩
    · have e : blk n (some (⟨b, 0, none⟩ : Addr)) c = b := by unfold blk; rw [if_neg hc]
      refine .inr ⟨b, cur, fl, rfl, h1, h2, ?_, h4, h5, h6, h7⟩
      rw [e]
      exact .inl ⟨Nat.le_refl _, by show b < b + min c 1; omega, rfl⟩
theorem Ow.blk_in (n : Nat) (k : Ow d T h (okL l) oi A c xs) : (c = 0 ∧ blk n A c = n) ∨ (0 < c ∧ blk n A c < h.size ∧ okL l (blk n A c) (some T)) := by
  rcases k with ⟨rfl, rfl⟩ | ⟨b, cur, fl, rfl, h1, h2, h3, h4, h5, h6, h7⟩
  · exact .inl ⟨rfl, by unfold blk; rw [if_pos rfl]⟩
  · by_cases hc : c = 0
    · subst hc
      exact .inl ⟨rfl, by unfold blk; rw [if_pos rfl]⟩
    · have e : blk n (some (⟨b, 0, none⟩ : Addr)) c = b := by unfold blk; rw [if_neg hc]
      rw [e]
      exact .inr ⟨by omega, (Array.getElem?_eq_some_iff.1 h4).1, h3⟩
theorem Ow.blk_lt (n : Nat) (k : Ow d T h (okL l) oi A c xs) : (c = 0 ∧ blk n A c = n) ∨ (0 < c ∧ blk n A c < h.size) := by
  rcases k.blk_in n with h | h
  · exact .inl h
  · exact .inr ⟨h.1, h.2.1⟩
theorem Ow.subI (k : Ow d T w.heap ok (okL li) A c xs) (hi : subL li li') : Ow d T w.heap ok (okL li') A c xs := k.mono (fun _ _ ho => ho) fun _ _ ho => okL_sub hi ho
theorem disjE {T : TypeId} {a b c e : Nat} {p q : Option TypeId} (h : b ≤ c ∨ e ≤ a) : disj T (a, some b, p) (c, some e, q) := .inr h
theorem blk_nil (n : Nat) (A : Option Addr) : blk n A 0 = n := by unfold blk; rw [if_pos rfl]
end
end Go.H
