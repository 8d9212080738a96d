/- Walks; printed by a program of the claim. -/
import Derived.Test.YtnaajldlloglkaaTabW
set_option linter.unusedVariables false
set_option linter.unusedSimpArgs false
namespace Go.Proofs.Ytnaajldlloglkaa.W
open Go.H Go.Proofs
set_option maxHeartbeats 4000000 in
set_option maxRecDepth 100000 in
theorem hermitagelaw8_Heavy.calls (p0 : hermitagelaw8Script) (A1 : Option Addr) (c_1 : Nat) (A2 : Option Addr) (c_2 : Nat) (r : Bool) (w : World) (hs1 : Sl kEntry w.heap okAll A1 p0.T.List_) (hl1 : p0.T.List_.length ≤ c_1) (hs2 : Sl khermitagelaw8Act w.heap okAll A2 p0.A) (hl2 : p0.A.length ≤ c_2) (H : hermitagelaw8_Heavy.f p0 = some r) :
    Calls Try.prog 10 #[.agg #[.int .i64 p0.T.Dev, .int .i64 p0.T.Size, .slice A1 p0.T.List_.length c_1, .slice A2 p0.A.length c_2]] w fun e w' => e = .returned (.bool r) ∧ Ext w w' := by
 have h1 : Sl kEntry w.heap (okL [(0, some w.heap.size, none)]) A1 p0.T.List_ := hs1.old _ rfl
 have h2 : Sl khermitagelaw8Act w.heap (okL [(0, some w.heap.size, none)]) A2 p0.A := hs2.old _ rfl
 have x0 : Ext w w := Upd.refl _ w
 unfold hermitagelaw8_Heavy.f at H
 refine calls_start Try.func10 rfl 14 rfl [.agg #[.int .i64 p0.T.Dev, .int .i64 p0.T.Size, .slice A1 p0.T.List_.length c_1, .slice A2 p0.A.length c_2]] rfl ?_
 refine CW.seq ?_
 refine CW.lex [.X, .W] rfl ?_
 refine RW.box (cs := [.int .i64 p0.T.Dev, .int .i64 p0.T.Size, .slice A1 p0.T.List_.length c_1, .slice A2 p0.A.length c_2]) (.inl rfl) ⟨rfl, rfl, rfl, rfl⟩ rfl rfl rfl ?_
 intro b1 w1 x1 l1 h3
 have sx1 := x1.size
 have ltb1 := h3.lt
 refine RW.pure tabOk 1 rfl ?_
 refine RW.done ?_
 refine NW.next ?_
 refine CW.seq ?_
 refine CW.lex [.W, .W, .L, .W, .W, .W, .W, .L, .W, .W, .W, .W] rfl ?_
 refine RW.pure tabOk 2 rfl ?_
 refine RW.load tabOk [.slice A1 p0.T.List_.length c_1] ((h3.at 2).take 1 rfl) ⟨rfl, rfl, rfl, rfl⟩ rfl rfl rfl rfl ?_
 refine RW.pure tabOk 3 rfl ?_
 by_cases c1 : 300 < (p0.T.List_.length : Int)
 ·
  rw [if_pos c1] at H
  refine RW.bool 8 (b' := true) (decide_eq_true c1) rfl ?_
  refine RW.pure tabOk 6 rfl ?_
  refine RW.done ?_
  refine NW.next ?_
  refine CW.ret ?_
  obtain rfl := Option.some.inj H
  have h4 := Ext.trans x0 x1
  exact NW.ret1 rfl (by rfl) ⟨rfl, h4⟩
 ·
  rw [if_neg c1] at H
  refine RW.bool 8 (b' := false) (decide_eq_false c1) rfl ?_
  refine RW.pure tabOk 1 rfl ?_
  refine RW.load tabOk [.slice A2 p0.A.length c_2] (h3.at 3) ⟨rfl, rfl, rfl, rfl⟩ rfl rfl rfl rfl ?_
  refine RW.pure tabOk 4 rfl ?_
  refine RW.done ?_
  refine NW.next ?_
  refine CW.ret ?_
  obtain rfl := Option.some.inj H
  have h5 := Ext.trans x0 x1
  exact NW.ret1 rfl (by rfl) ⟨rfl, h5⟩

set_option maxHeartbeats 4000000 in
set_option maxRecDepth 100000 in
theorem hermitagelaw0_Within.calls (p0 : Int) (p1 : Int) (r : Int) (w : World) (H : hermitagelaw0_Within.f p0 p1 = some r) :
    Calls Try.prog 11 #[.int .i64 p0, .int .i64 p1] w fun e w' => e = .returned (.int .i64 r) ∧ Ext w w' := by
 have x0 : Ext w w := Upd.refl _ w
 unfold hermitagelaw0_Within.f at H
 refine calls_start Try.func11 rfl 11 rfl [.int .i64 p0, .int .i64 p1] rfl ?_
 refine CW.seq ?_
 refine CW.lex [.W] rfl ?_
 refine RW.pure tabOk 1 rfl ?_
 refine RW.done ?_
 refine NW.next ?_
 refine CW.seq ?_
 refine CW.lex [.W, .W, .W, .W, .W, .W, .W] rfl ?_
 refine RW.pure tabOk 4 rfl ?_
 obtain ⟨g1, H⟩ := guard_some H
 refine RW.div g1 ⟨rfl, rfl, rfl, rfl⟩ rfl rfl rfl rfl ?_
 refine RW.pure tabOk 2 rfl ?_
 refine RW.done ?_
 refine NW.next ?_
 refine CW.ret ?_
 obtain rfl := Option.some.inj H
 exact NW.ret1 rfl (by rfl) ⟨rfl, x0⟩

set_option maxHeartbeats 4000000 in
set_option maxRecDepth 100000 in
theorem table_end.calls (p0 : Entry) (r : Int) (w : World) (H : table_end.f p0 = some r) :
    Calls Try.prog 40 #[.agg #[.int .i64 p0.From, .int .i64 p0.Len, .int .i64 p0.Dev, .int .i64 p0.To, .int .i64 p0.Stale]] w fun e w' => e = .returned (.int .i64 r) ∧ Ext w w' := by
 have x0 : Ext w w := Upd.refl _ w
 unfold table_end.f at H
 refine calls_start Try.func40 rfl 8 rfl [.agg #[.int .i64 p0.From, .int .i64 p0.Len, .int .i64 p0.Dev, .int .i64 p0.To, .int .i64 p0.Stale]] rfl ?_
 refine CW.seq ?_
 refine CW.lex [.X, .W] rfl ?_
 refine RW.box (cs := [.int .i64 p0.From, .int .i64 p0.Len, .int .i64 p0.Dev, .int .i64 p0.To, .int .i64 p0.Stale]) (.inl rfl) ⟨rfl, rfl, rfl, rfl⟩ rfl rfl rfl ?_
 intro b1 w1 x1 l1 h1
 have sx1 := x1.size
 have ltb1 := h1.lt
 refine RW.pure tabOk 1 rfl ?_
 refine RW.done ?_
 refine NW.next ?_
 refine CW.seq ?_
 refine CW.lex [.W, .L, .W, .L, .W, .W] rfl ?_
 refine RW.pure tabOk 1 rfl ?_
 refine RW.load tabOk [.int .i64 p0.From] ((h1.at 0).take 1 rfl) ⟨rfl, rfl, rfl, rfl⟩ rfl rfl rfl rfl ?_
 refine RW.pure tabOk 1 rfl ?_
 refine RW.load tabOk [.int .i64 p0.Len] ((h1.at 1).take 1 rfl) ⟨rfl, rfl, rfl, rfl⟩ rfl rfl rfl rfl ?_
 refine RW.pure tabOk 2 rfl ?_
 refine RW.done ?_
 refine NW.next ?_
 refine CW.ret ?_
 obtain rfl := Option.some.inj H
 have h2 := Ext.trans x0 x1
 exact NW.ret1 rfl (by rfl) ⟨rfl, h2⟩

set_option maxHeartbeats 4000000 in
set_option maxRecDepth 100000 in
theorem table_id.calls (p0 : Int) (r : Bool) (w : World) (H : table_id.f p0 = some r) :
    Calls Try.prog 82 #[.int .i64 p0] w fun e w' => e = .returned (.bool r) ∧ Ext w w' := by
 have x0 : Ext w w := Upd.refl _ w
 unfold table_id.f at H
 refine calls_start Try.func82 rfl 9 rfl [.int .i64 p0] rfl ?_
 refine CW.seq ?_
 refine CW.lex [.W] rfl ?_
 refine RW.pure tabOk 1 rfl ?_
 refine RW.done ?_
 refine NW.next ?_
 refine CW.seq ?_
 refine CW.lex [.W, .W, .W, .W, .W, .W, .W] rfl ?_
 refine RW.pure tabOk 3 rfl ?_
 by_cases c1 : 1 ≤ p0
 ·
  rw [if_pos c1] at H
  refine RW.bool 5 (b' := true) (decide_eq_true c1) rfl ?_
  refine RW.pure tabOk 4 rfl ?_
  refine RW.done ?_
  refine NW.next ?_
  refine CW.ret ?_
  obtain rfl := Option.some.inj H
  exact NW.ret1 rfl (by rfl) ⟨rfl, x0⟩
 ·
  rw [if_neg c1] at H
  refine RW.bool 5 (b' := false) (decide_eq_false c1) rfl ?_
  refine RW.pure tabOk 4 rfl ?_
  refine RW.done ?_
  refine NW.next ?_
  refine CW.ret ?_
  obtain rfl := Option.some.inj H
  exact NW.ret1 rfl (by rfl) ⟨rfl, x0⟩

set_option maxHeartbeats 4000000 in
set_option maxRecDepth 100000 in
theorem table_entry.calls (p0 : Table) (A1 : Option Addr) (c_1 : Nat) (p1 : Entry) (r : Bool) (w : World) (hs1 : Sl kEntry w.heap okAll A1 p0.List_) (hl1 : p0.List_.length ≤ c_1) (H : table_entry.f p0 p1 = some r) :
    Calls Try.prog 42 #[.agg #[.int .i64 p0.Dev, .int .i64 p0.Size, .slice A1 p0.List_.length c_1], .agg #[.int .i64 p1.From, .int .i64 p1.Len, .int .i64 p1.Dev, .int .i64 p1.To, .int .i64 p1.Stale]] w fun e w' => e = .returned (.bool r) ∧ Ext w w' := by
 have h1 : Sl kEntry w.heap (okL [(0, some w.heap.size, none)]) A1 p0.List_ := hs1.old _ rfl
 have x0 : Ext w w := Upd.refl _ w
 unfold table_entry.f at H
 refine calls_start Try.func42 rfl 72 rfl [.agg #[.int .i64 p0.Dev, .int .i64 p0.Size, .slice A1 p0.List_.length c_1], .agg #[.int .i64 p1.From, .int .i64 p1.Len, .int .i64 p1.Dev, .int .i64 p1.To, .int .i64 p1.Stale]] rfl ?_
 refine CW.seq ?_
 refine CW.lex [.X, .X, .W] rfl ?_
 refine RW.box (cs := [.int .i64 p0.Dev, .int .i64 p0.Size, .slice A1 p0.List_.length c_1]) (.inl rfl) ⟨rfl, rfl, rfl, rfl⟩ rfl rfl rfl ?_
 intro b1 w1 x1 l1 h2
 have sx1 := x1.size
 have ltb1 := h2.lt
 refine RW.box (cs := [.int .i64 p1.From, .int .i64 p1.Len, .int .i64 p1.Dev, .int .i64 p1.To, .int .i64 p1.Stale]) (.inl rfl) ⟨rfl, rfl, rfl, rfl⟩ rfl rfl rfl ?_
 intro b2 w2 x2 l2 h3
 have sx2 := x2.size
 have ltb2 := h3.lt
 refine RW.pure tabOk 1 rfl ?_
 refine RW.done ?_
 refine NW.next ?_
 refine CW.seq ?_
 refine CW.lex [.W, .L, .W, .W, .W, .L, .W, .L, .W, .W, .W, .W, .L, .W, .W, .W, .W, .L, .W, .L, .W, .L, .W, .W, .W, .W, .W, .L, .X, .W, .W, .W, .L, .W, .L, .W, .W, .W, .W, .L, .W, .W, .W, .W, .L, .W, .W, .W, .W, .L, .W, .L, .W, .W, .W, .W, .W, .L, .W, .W, .W, .W, .L, .W, .L, .W, .W, .W] rfl ?_
 refine RW.pure tabOk 1 rfl ?_
 refine RW.load tabOk [.int .i64 p1.From] ((h3.at 0).take 1 rfl) ⟨rfl, rfl, rfl, rfl⟩ rfl rfl rfl rfl ?_
 refine RW.pure tabOk 2 rfl ?_
 by_cases c1 : 0 ≤ p1.From
 ·
  rw [if_pos c1] at H
  refine RW.bool 8 (b' := true) (decide_eq_true c1) rfl ?_
  refine RW.pure tabOk 1 rfl ?_
  refine RW.load tabOk [.int .i64 p1.From] ((h3.at 0).take 1 rfl) ⟨rfl, rfl, rfl, rfl⟩ rfl rfl rfl rfl ?_
  refine RW.pure tabOk 1 rfl ?_
  have h4 := h2.ext x2
  refine RW.load tabOk [.int .i64 p0.Size] ((h4.at 1).take 1 rfl) ⟨rfl, rfl, rfl, rfl⟩ rfl rfl rfl rfl ?_
  refine RW.pure tabOk 3 rfl ?_
  by_cases c2 : p1.From < p0.Size
  ·
   rw [if_pos c2] at H
   refine RW.bool 15 (b' := true) (decide_eq_true c2) rfl ?_
   refine RW.pure tabOk 1 rfl ?_
   refine RW.load tabOk [.int .i64 p1.Len] ((h3.at 1).take 1 rfl) ⟨rfl, rfl, rfl, rfl⟩ rfl rfl rfl rfl ?_
   refine RW.pure tabOk 3 rfl ?_
   by_cases c3 : 1 ≤ p1.Len
   ·
    rw [if_pos c3] at H
    refine RW.bool 20 (b' := true) (decide_eq_true c3) rfl ?_
    refine RW.pure tabOk 1 rfl ?_
    refine RW.load tabOk [.int .i64 p1.Len] ((h3.at 1).take 1 rfl) ⟨rfl, rfl, rfl, rfl⟩ rfl rfl rfl rfl ?_
    refine RW.pure tabOk 1 rfl ?_
    refine RW.load tabOk [.int .i64 p0.Size] ((h4.at 1).take 1 rfl) ⟨rfl, rfl, rfl, rfl⟩ rfl rfl rfl rfl ?_
    refine RW.pure tabOk 1 rfl ?_
    refine RW.load tabOk [.int .i64 p1.From] ((h3.at 0).take 1 rfl) ⟨rfl, rfl, rfl, rfl⟩ rfl rfl rfl rfl ?_
    refine RW.pure tabOk 4 rfl ?_
    by_cases c4 : p1.Len ≤ (w64 (p0.Size - p1.From))
    ·
     rw [if_pos c4] at H
     refine RW.bool 30 (b' := true) (decide_eq_true c4) rfl ?_
     refine RW.pure tabOk 1 rfl ?_
     refine RW.load tabOk [.int .i64 p1.Dev] ((h3.at 2).take 1 rfl) ⟨rfl, rfl, rfl, rfl⟩ rfl rfl rfl rfl ?_
     obtain ⟨y1, h5, H⟩ := bind_some H
     refine RW.callF (.inl rfl) ent82 ⟨rfl, rfl, rfl, rfl⟩ rfl rfl (table_id.calls p1.Dev _ _ h5) ?_
     rintro _ w3 ⟨rfl, x3⟩
     refine ⟨_, rfl, x3, ?_⟩
     have sx3 := x3.size
     refine RW.pure tabOk 2 rfl ?_
     by_cases c5 : y1 = true
     ·
      rw [if_pos c5] at H
      refine RW.bool 35 (b' := true) (c5) rfl ?_
      refine RW.pure tabOk 1 rfl ?_
      have h6 := h3.ext x3
      refine RW.load tabOk [.int .i64 p1.Dev] ((h6.at 2).take 1 rfl) ⟨rfl, rfl, rfl, rfl⟩ rfl rfl rfl rfl ?_
      refine RW.pure tabOk 1 rfl ?_
      have h7 := h4.ext x3
      refine RW.load tabOk [.int .i64 p0.Dev] ((h7.at 0).take 1 rfl) ⟨rfl, rfl, rfl, rfl⟩ rfl rfl rfl rfl ?_
      refine RW.pure tabOk 3 rfl ?_
      by_cases c6 : p1.Dev = p0.Dev
      ·
       rw [if_pos c6] at H
       refine RW.bool 42 (b' := false) (bne_f c6) rfl ?_
       refine RW.pure tabOk 30 rfl ?_
       refine RW.done ?_
       refine NW.next ?_
       refine CW.ret ?_
       obtain rfl := Option.some.inj H
       have h8 := Ext.trans (Ext.trans (Ext.trans x0 x1) x2) x3
       exact NW.ret1 rfl (by rfl) ⟨rfl, h8⟩
      ·
       rw [if_neg c6] at H
       refine RW.bool 42 (b' := true) (bne_t c6) rfl ?_
       refine RW.pure tabOk 1 rfl ?_
       refine RW.load tabOk [.int .i64 p1.To] ((h6.at 3).take 1 rfl) ⟨rfl, rfl, rfl, rfl⟩ rfl rfl rfl rfl ?_
       refine RW.pure tabOk 3 rfl ?_
       by_cases c7 : 0 ≤ p1.To
       ·
        rw [if_pos c7] at H
        refine RW.bool 47 (b' := true) (decide_eq_true c7) rfl ?_
        refine RW.pure tabOk 1 rfl ?_
        refine RW.load tabOk [.int .i64 p1.To] ((h6.at 3).take 1 rfl) ⟨rfl, rfl, rfl, rfl⟩ rfl rfl rfl rfl ?_
        refine RW.pure tabOk 3 rfl ?_
        by_cases c8 : p1.To < 64
        ·
         rw [if_pos c8] at H
         refine RW.bool 52 (b' := true) (decide_eq_true c8) rfl ?_
         refine RW.pure tabOk 1 rfl ?_
         refine RW.load tabOk [.int .i64 p1.Len] ((h6.at 1).take 1 rfl) ⟨rfl, rfl, rfl, rfl⟩ rfl rfl rfl rfl ?_
         refine RW.pure tabOk 1 rfl ?_
         refine RW.load tabOk [.int .i64 p1.To] ((h6.at 3).take 1 rfl) ⟨rfl, rfl, rfl, rfl⟩ rfl rfl rfl rfl ?_
         refine RW.pure tabOk 4 rfl ?_
         by_cases c9 : p1.Len ≤ (w64 (64 - p1.To))
         ·
          rw [if_pos c9] at H
          refine RW.bool 60 (b' := true) (decide_eq_true c9) rfl ?_
          refine RW.pure tabOk 1 rfl ?_
          refine RW.load tabOk [.int .i64 p1.Stale] (h6.at 4) ⟨rfl, rfl, rfl, rfl⟩ rfl rfl rfl rfl ?_
          refine RW.pure tabOk 3 rfl ?_
          by_cases c10 : 0 ≤ p1.Stale
          ·
           rw [if_pos c10] at H
           refine RW.bool 65 (b' := true) (decide_eq_true c10) rfl ?_
           refine RW.pure tabOk 1 rfl ?_
           refine RW.load tabOk [.int .i64 p1.Stale] (h6.at 4) ⟨rfl, rfl, rfl, rfl⟩ rfl rfl rfl rfl ?_
           refine RW.pure tabOk 1 rfl ?_
           refine RW.load tabOk [.int .i64 p1.Len] ((h6.at 1).take 1 rfl) ⟨rfl, rfl, rfl, rfl⟩ rfl rfl rfl rfl ?_
           refine RW.pure tabOk 3 rfl ?_
           refine RW.done ?_
           refine NW.next ?_
           refine CW.ret ?_
           obtain rfl := Option.some.inj H
           have h9 := Ext.trans (Ext.trans (Ext.trans x0 x1) x2) x3
           exact NW.ret1 rfl (by rfl) ⟨rfl, h9⟩
          ·
           rw [if_neg c10] at H
           refine RW.bool 65 (b' := false) (decide_eq_false c10) rfl ?_
           refine RW.pure tabOk 7 rfl ?_
           refine RW.done ?_
           refine NW.next ?_
           refine CW.ret ?_
           obtain rfl := Option.some.inj H
           have h10 := Ext.trans (Ext.trans (Ext.trans x0 x1) x2) x3
           exact NW.ret1 rfl (by rfl) ⟨rfl, h10⟩
         ·
          rw [if_neg c9] at H
          refine RW.bool 60 (b' := false) (decide_eq_false c9) rfl ?_
          refine RW.pure tabOk 12 rfl ?_
          refine RW.done ?_
          refine NW.next ?_
          refine CW.ret ?_
          obtain rfl := Option.some.inj H
          have h11 := Ext.trans (Ext.trans (Ext.trans x0 x1) x2) x3
          exact NW.ret1 rfl (by rfl) ⟨rfl, h11⟩
        ·
         rw [if_neg c8] at H
         refine RW.bool 52 (b' := false) (decide_eq_false c8) rfl ?_
         refine RW.pure tabOk 20 rfl ?_
         refine RW.done ?_
         refine NW.next ?_
         refine CW.ret ?_
         obtain rfl := Option.some.inj H
         have h12 := Ext.trans (Ext.trans (Ext.trans x0 x1) x2) x3
         exact NW.ret1 rfl (by rfl) ⟨rfl, h12⟩
       ·
        rw [if_neg c7] at H
        refine RW.bool 47 (b' := false) (decide_eq_false c7) rfl ?_
        refine RW.pure tabOk 25 rfl ?_
        refine RW.done ?_
        refine NW.next ?_
        refine CW.ret ?_
        obtain rfl := Option.some.inj H
        have h13 := Ext.trans (Ext.trans (Ext.trans x0 x1) x2) x3
        exact NW.ret1 rfl (by rfl) ⟨rfl, h13⟩
     ·
      rw [if_neg c5] at H
      refine RW.bool 35 (b' := false) (bool_f c5) rfl ?_
      refine RW.pure tabOk 37 rfl ?_
      refine RW.done ?_
      refine NW.next ?_
      refine CW.ret ?_
      obtain rfl := Option.some.inj H
      have h14 := Ext.trans (Ext.trans (Ext.trans x0 x1) x2) x3
      exact NW.ret1 rfl (by rfl) ⟨rfl, h14⟩
    ·
     rw [if_neg c4] at H
     refine RW.bool 30 (b' := false) (decide_eq_false c4) rfl ?_
     refine RW.pure tabOk 42 rfl ?_
     refine RW.done ?_
     refine NW.next ?_
     refine CW.ret ?_
     obtain rfl := Option.some.inj H
     have h15 := Ext.trans (Ext.trans x0 x1) x2
     exact NW.ret1 rfl (by rfl) ⟨rfl, h15⟩
   ·
    rw [if_neg c3] at H
    refine RW.bool 20 (b' := false) (decide_eq_false c3) rfl ?_
    refine RW.pure tabOk 52 rfl ?_
    refine RW.done ?_
    refine NW.next ?_
    refine CW.ret ?_
    obtain rfl := Option.some.inj H
    have h16 := Ext.trans (Ext.trans x0 x1) x2
    exact NW.ret1 rfl (by rfl) ⟨rfl, h16⟩
  ·
   rw [if_neg c2] at H
   refine RW.bool 15 (b' := false) (decide_eq_false c2) rfl ?_
   refine RW.pure tabOk 57 rfl ?_
   refine RW.done ?_
   refine NW.next ?_
   refine CW.ret ?_
   obtain rfl := Option.some.inj H
   have h17 := Ext.trans (Ext.trans x0 x1) x2
   exact NW.ret1 rfl (by rfl) ⟨rfl, h17⟩
 ·
  rw [if_neg c1] at H
  refine RW.bool 8 (b' := false) (decide_eq_false c1) rfl ?_
  refine RW.pure tabOk 64 rfl ?_
  refine RW.done ?_
  refine NW.next ?_
  refine CW.ret ?_
  obtain rfl := Option.some.inj H
  have h18 := Ext.trans (Ext.trans x0 x1) x2
  exact NW.ret1 rfl (by rfl) ⟨rfl, h18⟩

set_option maxHeartbeats 4000000 in
set_option maxRecDepth 100000 in
theorem table_May.calls (k : Nat) (p0 : Table) (A1 : Option Addr) (c_1 : Nat) (r : Bool) (w : World) (hs1 : Sl kEntry w.heap okAll A1 p0.List_) (hl1 : p0.List_.length ≤ c_1) (H : table_May.f k p0 = some r) :
    Calls Try.prog 41 #[.agg #[.int .i64 p0.Dev, .int .i64 p0.Size, .slice A1 p0.List_.length c_1]] w fun e w' => e = .returned (.bool r) ∧ Ext w w' := by
 have h1 : Sl kEntry w.heap (okL [(0, some w.heap.size, none)]) A1 p0.List_ := hs1.old _ rfl
 have x0 : Ext w w := Upd.refl _ w
 unfold table_May.f at H
 refine calls_start Try.func41 rfl 48 rfl [.agg #[.int .i64 p0.Dev, .int .i64 p0.Size, .slice A1 p0.List_.length c_1]] rfl ?_
 refine CW.seq ?_
 refine CW.lex [.X, .W] rfl ?_
 refine RW.box (cs := [.int .i64 p0.Dev, .int .i64 p0.Size, .slice A1 p0.List_.length c_1]) (.inl rfl) ⟨rfl, rfl, rfl, rfl⟩ rfl rfl rfl ?_
 intro b1 w1 x1 l1 h2
 have sx1 := x1.size
 have ltb1 := h2.lt
 refine RW.pure tabOk 1 rfl ?_
 refine RW.done ?_
 refine NW.next ?_
 refine CW.seq ?_
 refine CW.seqJ (fun a w2 => ∃ (bt18_0 : Bool), Sat 48 [(1, .pointer (some ⟨b1, 0, none⟩)), (18, .bool bt18_0)] a ∧ w1.heap.size ≤ w2.heap.size ∧ Sl kEntry w2.heap (okL [(0, some w.heap.size, none)]) A1 p0.List_ ∧ Ext w w2 ∧ Box w2.heap b1 24 [.int .i64 p0.Dev, .int .i64 p0.Size, .slice A1 p0.List_.length c_1] ∧ table_May.j0 p0 k bt18_0 = some r) ?_ ?_
 ·
  refine CW.lex [.W, .L, .X, .W, .W, .W, .L, .W, .W, .W, .W, .L, .W, .W] rfl ?_
  refine RW.pure tabOk 1 rfl ?_
  refine RW.load tabOk [.int .i64 p0.Dev] ((h2.at 0).take 1 rfl) ⟨rfl, rfl, rfl, rfl⟩ rfl rfl rfl rfl ?_
  obtain ⟨y1, h3, H⟩ := bind_some H
  refine RW.callF (.inl rfl) ent82 ⟨rfl, rfl, rfl, rfl⟩ rfl rfl (table_id.calls p0.Dev _ _ h3) ?_
  rintro _ w3 ⟨rfl, x2⟩
  refine ⟨_, rfl, x2, ?_⟩
  have sx2 := x2.size
  refine RW.pure tabOk 2 rfl ?_
  by_cases c1 : y1 = true
  ·
   rw [if_pos c1] at H
   refine RW.bool 9 (b' := false) (not_f (c1)) rfl ?_
   refine RW.pure tabOk 1 rfl ?_
   have h4 := h2.ext x2
   refine RW.load tabOk [.int .i64 p0.Size] ((h4.at 1).take 1 rfl) ⟨rfl, rfl, rfl, rfl⟩ rfl rfl rfl rfl ?_
   refine RW.pure tabOk 3 rfl ?_
   by_cases c2 : p0.Size < 1
   ·
    rw [if_pos c2] at H
    refine RW.bool 14 (b' := true) (decide_eq_true c2) rfl ?_
    refine RW.pure tabOk 4 rfl ?_
    refine RW.done ?_
    have h5 := (h1.ext x1).ext x2
    have h6 := Ext.trans (Ext.trans x0 x1) x2
    exact NW.J fun a ha => ⟨true, ha.sub ⟨rfl, rfl, trivial⟩, by omega, h5, h6, h4, H⟩
   ·
    rw [if_neg c2] at H
    refine RW.bool 14 (b' := false) (decide_eq_false c2) rfl ?_
    refine RW.pure tabOk 1 rfl ?_
    refine RW.load tabOk [.int .i64 p0.Size] ((h4.at 1).take 1 rfl) ⟨rfl, rfl, rfl, rfl⟩ rfl rfl rfl rfl ?_
    refine RW.pure tabOk 2 rfl ?_
    refine RW.done ?_
    have h7 := (h1.ext x1).ext x2
    have h8 := Ext.trans (Ext.trans x0 x1) x2
    exact NW.J fun a ha => ⟨(decide (64 < p0.Size)), ha.sub ⟨rfl, rfl, trivial⟩, by omega, h7, h8, h4, H⟩
  ·
   rw [if_neg c1] at H
   refine RW.bool 9 (b' := true) (not_t (bool_f c1)) rfl ?_
   refine RW.pure tabOk 9 rfl ?_
   refine RW.done ?_
   have h9 := (h1.ext x1).ext x2
   have h10 := Ext.trans (Ext.trans x0 x1) x2
   have h11 := h2.ext x2
   exact NW.J fun a ha => ⟨true, ha.sub ⟨rfl, rfl, trivial⟩, by omega, h9, h10, h11, H⟩
 intro a w2 hJ hp
 obtain ⟨bt18_0, hS, hle, gF1_0, x0_0, gb1_0, H⟩ := hJ
 unfold table_May.j0 at H
 refine CW.go hp hS ?_
 by_cases c3 : bt18_0 = true
 ·
  rw [if_pos c3] at H
  refine CW.cond_t rfl (c3) ?_
  refine CW.seq ?_
  refine CW.lex [.W] rfl ?_
  refine RW.pure tabOk 1 rfl ?_
  refine RW.done ?_
  refine NW.next ?_
  refine CW.ret ?_
  refine NW.ret_then ?_
  obtain rfl := Option.some.inj H
  exact NW.ret1 rfl (by rfl) ⟨rfl, x0_0⟩
 ·
  rw [if_neg c3] at H
  refine CW.cond_f rfl (bool_f c3) ?_
  refine CW.skip ?_
  refine NW.next ?_
  refine CW.seq ?_
  refine CW.seq ?_
  refine CW.lex [.W, .L, .W, .W] rfl ?_
  refine RW.pure tabOk 1 rfl ?_
  refine RW.load tabOk [.slice A1 p0.List_.length c_1] (gb1_0.at 2) ⟨rfl, rfl, rfl, rfl⟩ rfl rfl rfl rfl ?_
  refine RW.pure tabOk 2 rfl ?_
  refine RW.done ?_
  refine NW.next ?_
  refine CW.block ?_
  refine CW.loop (fun n1 a w4 => ∃ (it22_1 : Int), Sat 48 [(1, .pointer (some ⟨b1, 0, none⟩)), (20, .slice A1 p0.List_.length c_1), (21, .int .i64 (p0.List_.length : Int)), (22, .int .i64 it22_1)] a ∧ w2.heap.size ≤ w4.heap.size ∧ Sl kEntry w4.heap (okL [(0, some w.heap.size, none)]) A1 p0.List_ ∧ Ext w w4 ∧ Box w4.heap b1 24 [.int .i64 p0.Dev, .int .i64 p0.Size, .slice A1 p0.List_.length c_1] ∧ table_May.l0 p0 n1 it22_1 = some r) k ?_ ?_
  · exact fun a ha => ⟨0, ha.sub ⟨rfl, rfl, rfl, rfl, trivial⟩, by omega, gF1_0, x0_0, gb1_0, H⟩
  intro n1 a w4 hI hp
  obtain ⟨it22_1, hS, hle, gF1_1, x0_1, gb1_1, H⟩ := hI
  cases n1 with
  | zero => cases H
  | succ n1 =>
   rw [table_May.l0] at H
   refine CW.go hp hS ?_
   refine CW.seq ?_
   refine CW.lex [.W] rfl ?_
   refine RW.pure tabOk 1 rfl ?_
   refine RW.done ?_
   refine NW.next ?_
   refine CW.seq ?_
   by_cases c4 : it22_1 < (p0.List_.length : Int)
   ·
    rw [if_pos c4] at H
    refine CW.cond_t rfl (decide_eq_true c4) ?_
    refine CW.skip ?_
    refine NW.next ?_
    refine CW.seq ?_
    refine CW.block ?_
    refine CW.seq ?_
    refine CW.lex [.W, .W, .L, .X, .W, .M] rfl ?_
    refine RW.pure tabOk 1 rfl ?_
    obtain ⟨g1, H⟩ := guard_some H
    obtain ⟨ad1, e1, a1⟩ := kEntry_at gF1_1 g1.1 g1.2
    refine RW.index tabOk g1.1 g1.2 e1 ⟨rfl, rfl, rfl, rfl⟩ rfl rfl rfl rfl rfl rfl ?_
    refine RW.load tabOk [.int .i64 ((rd p0.List_ it22_1).From), .int .i64 ((rd p0.List_ it22_1).Len), .int .i64 ((rd p0.List_ it22_1).Dev), .int .i64 ((rd p0.List_ it22_1).To), .int .i64 ((rd p0.List_ it22_1).Stale)] a1 ⟨rfl, rfl, rfl, rfl⟩ rfl rfl rfl rfl ?_
    refine RW.alloc tabOk (.inl rfl) ⟨rfl, rfl, rfl, rfl⟩ rfl rfl ?_
    intro b2 w5 x3 l2 h12
    have sx3 := x3.size
    have ltb2 := h12.lt
    refine RW.pure tabOk 1 rfl ?_
    refine RW.storeBox tabOk h12 [.int .i64 ((rd p0.List_ it22_1).From), .int .i64 ((rd p0.List_ it22_1).Len), .int .i64 ((rd p0.List_ it22_1).Dev), .int .i64 ((rd p0.List_ it22_1).To), .int .i64 ((rd p0.List_ it22_1).Stale)] ⟨rfl, rfl, rfl⟩ rfl rfl rfl rfl rfl rfl rfl rfl ?_
    intro w6 x4 h13
    have h14 : Box w6.heap b2 45 [.int .i64 ((rd p0.List_ it22_1).From), .int .i64 ((rd p0.List_ it22_1).Len), .int .i64 ((rd p0.List_ it22_1).Dev), .int .i64 ((rd p0.List_ it22_1).To), .int .i64 ((rd p0.List_ it22_1).Stale)] := h13
    have sx4 := x4.size
    refine RW.done ?_
    refine NW.next ?_
    refine CW.seqJ (fun a w7 => ∃ (bt46_2 : Bool), Sat 48 [(1, .pointer (some ⟨b1, 0, none⟩)), (20, .slice A1 p0.List_.length c_1), (21, .int .i64 (p0.List_.length : Int)), (22, .int .i64 it22_1), (46, .bool bt46_2)] a ∧ w6.heap.size ≤ w7.heap.size ∧ Sl kEntry w7.heap (okL [(0, some w.heap.size, none)]) A1 p0.List_ ∧ Ext w w7 ∧ Box w7.heap b1 24 [.int .i64 p0.Dev, .int .i64 p0.Size, .slice A1 p0.List_.length c_1] ∧ table_May.j1 it22_1 (table_May.l0 p0 n1) bt46_2 = some r) ?_ ?_
    ·
     refine CW.ord [0, 0, 3, 7, 15, 31, 63, 127, 255, 511, 255, 1279, 255, 4351, 15615, 31999, 64767, 131071, 262143, 524287] (ofL [(0, .L), (1, .L), (2, .X), (3, .W), (4, .W), (5, .W), (6, .W), (7, .W), (8, .W), (10, .W), (12, .W), (13, .W), (9, .L), (11, .L), (14, .W), (15, .L), (16, .X), (17, .W), (18, .W), (19, .W)] .nil) mixed (by kernel_rfl) ?_
     intro w8 x5
     have sx5 := x5.size
     have h15 := ((gb1_1.ext x3).turnB x4 (by omega)).ext x5
     refine RW.load tabOk [.int .i64 p0.Dev, .int .i64 p0.Size, .slice A1 p0.List_.length c_1] (h15.at 0) ⟨rfl, rfl, rfl, rfl⟩ rfl rfl rfl rfl ?_
     have h16 := h14.ext x5
     refine RW.load tabOk [.int .i64 ((rd p0.List_ it22_1).From), .int .i64 ((rd p0.List_ it22_1).Len), .int .i64 ((rd p0.List_ it22_1).Dev), .int .i64 ((rd p0.List_ it22_1).To), .int .i64 ((rd p0.List_ it22_1).Stale)] (h16.at 0) ⟨rfl, rfl, rfl, rfl⟩ rfl rfl rfl rfl ?_
     have h17 := ((gF1_1.ext x3).turnB x4 h12 ⟨.inr (by omega), trivial⟩).ext x5
     obtain ⟨y2, h18, H⟩ := bind_some H
     refine RW.callF (.inl rfl) ent42 ⟨rfl, rfl, rfl, rfl⟩ rfl rfl (table_entry.calls p0 A1 c_1 (rd p0.List_ it22_1) _ _ h17.all hl1 h18) ?_
     rintro _ w9 ⟨rfl, x6⟩
     refine ⟨_, rfl, x6, ?_⟩
     have sx6 := x6.size
     refine RW.pure tabOk 2 rfl ?_
     by_cases c5 : y2 = true
     ·
      rw [if_pos c5] at H
      refine RW.bool 31 (b' := false) (not_f (c5)) rfl ?_
      refine RW.pure tabOk 3 rfl ?_
      by_cases c6 : 0 < it22_1
      ·
       rw [if_pos c6] at H
       refine RW.bool 34 (b' := true) (decide_eq_true c6) rfl ?_
       refine RW.pure tabOk 4 rfl ?_
       have h19 := h16.ext x6
       refine RW.load tabOk [.int .i64 ((rd p0.List_ it22_1).From)] ((h19.at 0).take 1 rfl) ⟨rfl, rfl, rfl, rfl⟩ rfl rfl rfl rfl ?_
       have h20 := h15.ext x6
       refine RW.load tabOk [.slice A1 p0.List_.length c_1] (h20.at 2) ⟨rfl, rfl, rfl, rfl⟩ rfl rfl rfl rfl ?_
       obtain ⟨g2, H⟩ := guard_some H
       have h21 := h17.ext x6
       obtain ⟨ad2, e2, a2⟩ := kEntry_at h21 g2.1 g2.2
       refine RW.index tabOk g2.1 g2.2 e2 ⟨rfl, rfl, rfl, rfl⟩ rfl rfl rfl rfl rfl rfl ?_
       refine RW.load tabOk [.int .i64 ((rd p0.List_ (w64 (it22_1 - 1))).From), .int .i64 ((rd p0.List_ (w64 (it22_1 - 1))).Len), .int .i64 ((rd p0.List_ (w64 (it22_1 - 1))).Dev), .int .i64 ((rd p0.List_ (w64 (it22_1 - 1))).To), .int .i64 ((rd p0.List_ (w64 (it22_1 - 1))).Stale)] a2 ⟨rfl, rfl, rfl, rfl⟩ rfl rfl rfl rfl ?_
       obtain ⟨y3, h22, H⟩ := bind_some H
       refine RW.callF (.inl rfl) ent40 ⟨rfl, rfl, rfl, rfl⟩ rfl rfl (table_end.calls (rd p0.List_ (w64 (it22_1 - 1))) _ _ h22) ?_
       rintro _ w10 ⟨rfl, x7⟩
       refine ⟨_, rfl, x7, ?_⟩
       have sx7 := x7.size
       refine RW.pure tabOk 3 rfl ?_
       refine RW.done ?_
       have h23 := h21.ext x7
       have h24 := Ext.trans (Ext.trans (Ext.trans (Ext.turnB (Ext.trans x0_1 x3) x4 (by omega)) x5) x6) x7
       have h25 := h20.ext x7
       exact NW.J fun a ha => ⟨(decide (((rd p0.List_ it22_1).From) < y3)), ha.sub ⟨rfl, rfl, rfl, rfl, rfl, trivial⟩, by omega, h23, h24, h25, H⟩
      ·
       rw [if_neg c6] at H
       refine RW.bool 34 (b' := false) (decide_eq_false c6) rfl ?_
       refine RW.pure tabOk 12 rfl ?_
       refine RW.done ?_
       have h26 := h17.ext x6
       have h27 := Ext.trans (Ext.trans (Ext.turnB (Ext.trans x0_1 x3) x4 (by omega)) x5) x6
       have h28 := h15.ext x6
       exact NW.J fun a ha => ⟨false, ha.sub ⟨rfl, rfl, rfl, rfl, rfl, trivial⟩, by omega, h26, h27, h28, H⟩
     ·
      rw [if_neg c5] at H
      refine RW.bool 31 (b' := true) (not_t (bool_f c5)) rfl ?_
      refine RW.pure tabOk 15 rfl ?_
      refine RW.done ?_
      have h29 := h17.ext x6
      have h30 := Ext.trans (Ext.trans (Ext.turnB (Ext.trans x0_1 x3) x4 (by omega)) x5) x6
      have h31 := h15.ext x6
      exact NW.J fun a ha => ⟨true, ha.sub ⟨rfl, rfl, rfl, rfl, rfl, trivial⟩, by omega, h29, h30, h31, H⟩
    intro a w7 hJ hp
    obtain ⟨bt46_2, hS, hle, gF1_2, x0_2, gb1_2, H⟩ := hJ
    unfold table_May.j1 at H
    refine CW.go hp hS ?_
    by_cases c7 : bt46_2 = true
    ·
     rw [if_pos c7] at H
     refine CW.cond_t rfl (c7) ?_
     refine CW.seq ?_
     refine CW.lex [.W] rfl ?_
     refine RW.pure tabOk 1 rfl ?_
     refine RW.done ?_
     refine NW.next ?_
     refine CW.ret ?_
     refine NW.ret_block (NW.ret_then (NW.ret_then (NW.ret_block (NW.ret_then ?_))))
     obtain rfl := Option.some.inj H
     exact NW.ret1 rfl (by rfl) ⟨rfl, x0_2⟩
    ·
     rw [if_neg c7] at H
     refine CW.cond_f rfl (bool_f c7) ?_
     refine CW.skip ?_
     refine NW.norm_block (NW.next ?_)
     refine CW.lex [.W, .W] rfl ?_
     refine RW.pure tabOk 2 rfl ?_
     refine RW.done ?_
     exact NW.J fun a ha => ⟨n1, Nat.lt_succ_self n1, (w64 (it22_1 + 1)), ha.sub ⟨rfl, rfl, rfl, rfl, trivial⟩, by omega, gF1_2, x0_2, gb1_2, H⟩
   ·
    rw [if_neg c4] at H
    refine CW.cond_f rfl (decide_eq_false c4) ?_
    refine CW.exit ?_
    refine NW.exit_then (NW.exit_then (NW.exit_hit ?_))
    refine NW.next ?_
    refine CW.seq ?_
    refine CW.lex [.W] rfl ?_
    refine RW.pure tabOk 1 rfl ?_
    refine RW.done ?_
    refine NW.next ?_
    refine CW.ret ?_
    obtain rfl := Option.some.inj H
    exact NW.ret1 rfl (by rfl) ⟨rfl, x0_1⟩

set_option maxHeartbeats 4000000 in
set_option maxRecDepth 100000 in
theorem slices_Clone_Entry.calls (A1 : Option Addr) (c_1 : Nat) (p0 : List Entry) (r : (List Entry)) (w : World) (hs1 : Sl kEntry w.heap okAll A1 p0) (hl1 : p0.length ≤ c_1) (H : slices_Clone_Entry.f p0 = some r) :
    Calls Try.prog 83 #[.slice A1 p0.length c_1] w fun e w' => ∃ (B1 : Option Addr) (d1 : Nat), e = .returned (.slice B1 r.length d1) ∧ Ext w w' ∧ Ow kEntry 45 w'.heap (okL [(w.heap.size, none, some 45)]) (okL []) B1 d1 r := by
 have h1 : Sl kEntry w.heap (okL [(0, some w.heap.size, none)]) A1 p0 := hs1.old _ rfl
 have x0 : Ext w w := Upd.refl _ w
 unfold slices_Clone_Entry.f at H
 refine calls_start Try.func83 rfl 8 rfl [.slice A1 p0.length c_1] rfl ?_
 refine CW.seq ?_
 refine CW.lex [.W] rfl ?_
 refine RW.pure tabOk 1 rfl ?_
 refine RW.done ?_
 refine NW.next ?_
 refine CW.seq ?_
 refine CW.seq ?_
 refine CW.lex [.W, .W] rfl ?_
 refine RW.pure tabOk 1 rfl ?_
 refine RW.eqNil tabOk ⟨rfl, rfl, rfl, rfl⟩ rfl rfl rfl rfl rfl ?_
 refine RW.done ?_
 refine NW.next ?_
 by_cases c1 : A1.isNone = true
 ·
  obtain rfl : p0 = [] := sl_none h1 c1
  replace H : (some ([] : List Entry)) = some r := by first | exact H | simpa using H
  refine CW.cond_t rfl (c1) ?_
  refine CW.seq ?_
  refine CW.lex [.W] rfl ?_
  refine RW.pure tabOk 1 rfl ?_
  refine RW.done ?_
  refine NW.next ?_
  refine CW.ret ?_
  refine NW.ret_then ?_
  obtain rfl := Option.some.inj H
  exact NW.ret1 rfl (by rfl) ⟨none, 0, rfl, x0, Ow.nil⟩
 ·
  refine CW.cond_f rfl (bool_f c1) ?_
  refine CW.skip ?_
  refine NW.next ?_
  refine CW.seq ?_
  refine CW.lex [.X, .W, .M, .W] rfl ?_
  refine RW.buildSlice (cs := []) tabOk (.inl rfl) ⟨rfl, rfl, rfl, rfl⟩ rfl rfl rfl rfl rfl rfl rfl ?_
  intro b1 w1 x1 l1 h2
  have sx1 := x1.size
  have ltb1 := h2.lt
  refine RW.pure tabOk 1 rfl ?_
  have h3 := h1.ext x1
  obtain ⟨y1, h4, h5⟩ := Sl.ch h3
  have h6 := h4.flat (h' := w1.heap) (ok' := okL []) fun e => e
  obtain ⟨g1, H⟩ := guard_some H
  refine RW.appendL (d := kEntry) (l := []) (li := []) (ly := []) (xs := ([] : List Entry)) (ys := p0) tabOk Ow.nil h6 h5 trivial (by simp only [maxLen]; omega) g1 ⟨rfl, rfl, rfl, rfl⟩ rfl rfl rfl rfl rfl rfl rfl rfl ?_
  intro A2 c_2 w2 x2 h7
  have sx2 := x2.size
  have h8 := h7.close.sub (l' := [(w1.heap.size, some w2.heap.size, some 45)]) (li' := []) ⟨(.inl ⟨by omega, by omega, rfl⟩), trivial⟩ trivial
  refine RW.pure tabOk 1 rfl ?_
  refine RW.done ?_
  refine NW.next ?_
  refine CW.ret ?_
  obtain rfl := Option.some.inj H
  have h9 := Ext.turn (Ext.trans x0 x1) x2 trivial
  exact NW.ret1 rfl (by rfl) ⟨A2, c_2, rfl, h9, (h8.sub (l' := [(w.heap.size, none, some 45)]) (li' := []) ⟨(.inl ⟨by omega, trivial, rfl⟩), trivial⟩ trivial)⟩

set_option maxHeartbeats 4000000 in
set_option maxRecDepth 100000 in
theorem table_Own.calls (p0 : Table) (A1 : Option Addr) (c_1 : Nat) (r : Table) (w : World) (hs1 : Sl kEntry w.heap okAll A1 p0.List_) (hl1 : p0.List_.length ≤ c_1) (H : table_Own.f p0 = some r) :
    Calls Try.prog 43 #[.agg #[.int .i64 p0.Dev, .int .i64 p0.Size, .slice A1 p0.List_.length c_1]] w fun e w' => ∃ (B1 : Option Addr) (d1 : Nat), e = .returned (.agg #[.int .i64 r.Dev, .int .i64 r.Size, .slice B1 r.List_.length d1]) ∧ Ext w w' ∧ Ow kEntry 45 w'.heap (okL [(w.heap.size, none, some 45)]) (okL []) B1 d1 r.List_ := by
 have h1 : Sl kEntry w.heap (okL [(0, some w.heap.size, none)]) A1 p0.List_ := hs1.old _ rfl
 have x0 : Ext w w := Upd.refl _ w
 unfold table_Own.f at H
 refine calls_start Try.func43 rfl 8 rfl [.agg #[.int .i64 p0.Dev, .int .i64 p0.Size, .slice A1 p0.List_.length c_1]] rfl ?_
 refine CW.seq ?_
 refine CW.lex [.X, .X] rfl ?_
 refine RW.box (cs := [.int .i64 p0.Dev, .int .i64 p0.Size, .slice A1 p0.List_.length c_1]) (.inl rfl) ⟨rfl, rfl, rfl, rfl⟩ rfl rfl rfl ?_
 intro b1 w1 x1 l1 h2
 have sx1 := x1.size
 have ltb1 := h2.lt
 refine RW.alloc tabOk (.inl rfl) ⟨rfl, rfl, rfl, rfl⟩ rfl rfl ?_
 intro b2 w2 x2 l2 h3
 have sx2 := x2.size
 have ltb2 := h3.lt
 refine RW.done ?_
 refine NW.next ?_
 refine CW.seq ?_
 refine CW.lex [.W, .L, .X, .W, .M] rfl ?_
 refine RW.pure tabOk 1 rfl ?_
 have h4 := h2.ext x2
 refine RW.load tabOk [.slice A1 p0.List_.length c_1] (h4.at 2) ⟨rfl, rfl, rfl, rfl⟩ rfl rfl rfl rfl ?_
 have h5 := (h1.ext x1).ext x2
 obtain ⟨y1, h6, H⟩ := bind_some H
 refine RW.callF (.inl rfl) ent83 ⟨rfl, rfl, rfl, rfl⟩ rfl rfl (slices_Clone_Entry.calls A1 c_1 p0.List_ _ _ h5.all hl1 h6) ?_
 rintro _ w3 ⟨A2, c_2, rfl, x3, h7⟩
 refine ⟨_, rfl, x3, ?_⟩
 have sx3 := x3.size
 have h8 : Ow kEntry 45 w3.heap (okL [(w2.heap.size, some w3.heap.size, some 45)]) (okL []) A2 c_2 y1 := h7.close
 refine RW.pure tabOk 1 rfl ?_
 have h9 := h4.ext x3
 refine RW.storeBox tabOk h9 [.slice A2 y1.length c_2] ⟨rfl, rfl, rfl⟩ rfl rfl rfl rfl rfl rfl rfl rfl ?_
 intro w4 x4 h10
 have h11 : Box w4.heap b1 24 [.int .i64 p0.Dev, .int .i64 p0.Size, .slice A2 y1.length c_2] := h10
 have sx4 := x4.size
 refine RW.done ?_
 refine NW.next ?_
 refine CW.seq ?_
 refine CW.lex [.L, .M] rfl ?_
 refine RW.load tabOk [.int .i64 p0.Dev, .int .i64 p0.Size, .slice A2 y1.length c_2] (h11.at 0) ⟨rfl, rfl, rfl, rfl⟩ rfl rfl rfl rfl ?_
 have h12 := (h3.ext x3).turnB x4 (by omega)
 refine RW.storeBox tabOk h12 [.int .i64 p0.Dev, .int .i64 p0.Size, .slice A2 y1.length c_2] ⟨rfl, rfl, rfl⟩ rfl rfl rfl rfl rfl rfl rfl rfl ?_
 intro w5 x5 h13
 have h14 : Box w5.heap b2 24 [.int .i64 p0.Dev, .int .i64 p0.Size, .slice A2 y1.length c_2] := h13
 have sx5 := x5.size
 refine RW.done ?_
 refine NW.next ?_
 refine CW.ret ?_
 have h15 := (h8.turnB x4 h9 ⟨.inl (show (45 : Nat) ≠ 24 by decide), trivial⟩ trivial).turnB x5 h12 ⟨.inl (show (45 : Nat) ≠ 24 by decide), trivial⟩ trivial
 obtain rfl := Option.some.inj H
 have h16 := Ext.turnB (Ext.turnB (Ext.trans (Ext.trans (Ext.trans x0 x1) x2) x3) x4 (by omega)) x5 (by omega)
 exact NW.ret1 rfl (resOne_cell tabOk (h14.at 0) rfl rfl rfl) ⟨A2, c_2, rfl, h16, (h15.sub (l' := [(w.heap.size, none, some 45)]) (li' := []) ⟨(.inl ⟨by omega, trivial, rfl⟩), trivial⟩ trivial)⟩

set_option maxHeartbeats 4000000 in
set_option maxRecDepth 100000 in
theorem table_Add.calls (k : Nat) (p0 : Table) (A1 : Option Addr) (c_1 : Nat) (p1 : Int) (p2 : Ptr) (r : Table × Int) (w : World) (hs1 : Sl kEntry w.heap okAll A1 p0.List_) (hl1 : p0.List_.length ≤ c_1) (H : table_Add.f k p0 p1 p2 = some r) :
    Calls Try.prog 12 #[.agg #[.int .i64 p0.Dev, .int .i64 p0.Size, .slice A1 p0.List_.length c_1], .int .i64 p1, .agg #[.int .i64 p2.Dev, .int .i64 p2.At]] w fun e w' => ∃ (B1 : Option Addr) (d1 : Nat), e = .returned (.tuple #[.agg #[.int .i64 r.1.Dev, .int .i64 r.1.Size, .slice B1 r.1.List_.length d1], .int .i64 r.2]) ∧ Ext w w' ∧ Ow kEntry 45 w'.heap (okL [(w.heap.size, none, some 45)]) (okL []) B1 d1 r.1.List_ := by
 have h1 : Sl kEntry w.heap (okL [(0, some w.heap.size, none)]) A1 p0.List_ := hs1.old _ rfl
 have x0 : Ext w w := Upd.refl _ w
 unfold table_Add.f at H
 refine calls_start Try.func12 rfl 54 rfl [.agg #[.int .i64 p0.Dev, .int .i64 p0.Size, .slice A1 p0.List_.length c_1], .int .i64 p1, .agg #[.int .i64 p2.Dev, .int .i64 p2.At]] rfl ?_
 refine CW.seq ?_
 refine CW.lex [.X, .X, .X, .W] rfl ?_
 refine RW.box (cs := [.int .i64 p0.Dev, .int .i64 p0.Size, .slice A1 p0.List_.length c_1]) (.inl rfl) ⟨rfl, rfl, rfl, rfl⟩ rfl rfl rfl ?_
 intro b1 w1 x1 l1 h2
 have sx1 := x1.size
 have ltb1 := h2.lt
 refine RW.box (cs := [.int .i64 p2.Dev, .int .i64 p2.At]) (.inl rfl) ⟨rfl, rfl, rfl, rfl⟩ rfl rfl rfl ?_
 intro b2 w2 x2 l2 h3
 have sx2 := x2.size
 have ltb2 := h3.lt
 refine RW.alloc tabOk (.inl rfl) ⟨rfl, rfl, rfl, rfl⟩ rfl rfl ?_
 intro b3 w3 x3 l3 h4
 have sx3 := x3.size
 have ltb3 := h4.lt
 refine RW.pure tabOk 1 rfl ?_
 refine RW.done ?_
 refine NW.next ?_
 refine CW.seq ?_
 refine CW.lex [.W] rfl ?_
 refine RW.pure tabOk 1 rfl ?_
 refine RW.done ?_
 refine NW.next ?_
 refine CW.seqJ (fun a w4 => ∃ (it8_0 : Int), Sat 54 [(1, .int .i64 p1), (3, .pointer (some ⟨b1, 0, none⟩)), (5, .pointer (some ⟨b2, 0, none⟩)), (6, .pointer (some ⟨b3, 0, none⟩)), (8, .int .i64 it8_0)] a ∧ w3.heap.size ≤ w4.heap.size ∧ Sl kEntry w4.heap (okL [(0, some w.heap.size, none)]) A1 p0.List_ ∧ Ext w w4 ∧ Box w4.heap b1 24 [.int .i64 p0.Dev, .int .i64 p0.Size, .slice A1 p0.List_.length c_1] ∧ Box w4.heap b2 33 [.int .i64 p2.Dev, .int .i64 p2.At] ∧ Box w4.heap b3 24 [.int .i64 0, .int .i64 0, .slice none 0 0] ∧ table_Add.j0 p0 p1 p2 k it8_0 = some r) ?_ ?_
 ·
  refine CW.seq ?_
  refine CW.lex [.W, .L, .W, .W, .W] rfl ?_
  refine RW.pure tabOk 1 rfl ?_
  have h5 := (h2.ext x2).ext x3
  refine RW.load tabOk [.slice A1 p0.List_.length c_1] (h5.at 2) ⟨rfl, rfl, rfl, rfl⟩ rfl rfl rfl rfl ?_
  refine RW.pure tabOk 3 rfl ?_
  refine RW.done ?_
  refine NW.next ?_
  refine CW.seq ?_
  refine CW.lex [.W, .W] rfl ?_
  refine RW.pure tabOk 2 rfl ?_
  refine RW.done ?_
  refine NW.next ?_
  by_cases c1 : 0 ≤ (w64 ((p0.List_.length : Int) - 1))
  ·
   rw [if_pos c1] at H
   refine CW.cond_t rfl (decide_eq_true c1) ?_
   refine CW.lex [.W, .L, .W, .W, .L, .X, .W] rfl ?_
   refine RW.pure tabOk 1 rfl ?_
   refine RW.load tabOk [.slice A1 p0.List_.length c_1] (h5.at 2) ⟨rfl, rfl, rfl, rfl⟩ rfl rfl rfl rfl ?_
   refine RW.pure tabOk 1 rfl ?_
   obtain ⟨g1, H⟩ := guard_some H
   have h6 := ((h1.ext x1).ext x2).ext x3
   obtain ⟨ad1, e1, a1⟩ := kEntry_at h6 g1.1 g1.2
   refine RW.index tabOk g1.1 g1.2 e1 ⟨rfl, rfl, rfl, rfl⟩ rfl rfl rfl rfl rfl rfl ?_
   refine RW.load tabOk [.int .i64 ((rd p0.List_ (w64 ((p0.List_.length : Int) - 1))).From), .int .i64 ((rd p0.List_ (w64 ((p0.List_.length : Int) - 1))).Len), .int .i64 ((rd p0.List_ (w64 ((p0.List_.length : Int) - 1))).Dev), .int .i64 ((rd p0.List_ (w64 ((p0.List_.length : Int) - 1))).To), .int .i64 ((rd p0.List_ (w64 ((p0.List_.length : Int) - 1))).Stale)] a1 ⟨rfl, rfl, rfl, rfl⟩ rfl rfl rfl rfl ?_
   obtain ⟨y1, h7, H⟩ := bind_some H
   refine RW.callF (.inl rfl) ent40 ⟨rfl, rfl, rfl, rfl⟩ rfl rfl (table_end.calls (rd p0.List_ (w64 ((p0.List_.length : Int) - 1))) _ _ h7) ?_
   rintro _ w5 ⟨rfl, x4⟩
   refine ⟨_, rfl, x4, ?_⟩
   have sx4 := x4.size
   refine RW.pure tabOk 1 rfl ?_
   refine RW.done ?_
   have h8 := h6.ext x4
   have h9 := Ext.trans (Ext.trans (Ext.trans (Ext.trans x0 x1) x2) x3) x4
   have h10 := h5.ext x4
   have h11 := (h3.ext x3).ext x4
   have h12 := h4.ext x4
   exact NW.J fun a ha => ⟨y1, ha.sub ⟨rfl, rfl, rfl, rfl, rfl, trivial⟩, by omega, h8, h9, h10, h11, h12, H⟩
  ·
   rw [if_neg c1] at H
   refine CW.cond_f rfl (decide_eq_false c1) ?_
   refine CW.skip ?_
   have h13 := ((h1.ext x1).ext x2).ext x3
   have h14 := Ext.trans (Ext.trans (Ext.trans x0 x1) x2) x3
   have h15 := h3.ext x3
   exact NW.J fun a ha => ⟨0, ha.sub ⟨rfl, rfl, rfl, rfl, rfl, trivial⟩, by omega, h13, h14, h5, h15, h4, H⟩
 intro a w4 hJ hp
 obtain ⟨it8_0, hS, hle, gF1_0, x0_0, gb1_0, gb2_0, gb3_0, H⟩ := hJ
 unfold table_Add.j0 at H
 refine CW.go hp hS ?_
 refine CW.seq ?_
 refine CW.seqJ (fun a w6 => ∃ (bt46_1 : Bool), Sat 54 [(1, .int .i64 p1), (3, .pointer (some ⟨b1, 0, none⟩)), (5, .pointer (some ⟨b2, 0, none⟩)), (6, .pointer (some ⟨b3, 0, none⟩)), (46, .bool bt46_1)] a ∧ w4.heap.size ≤ w6.heap.size ∧ Sl kEntry w6.heap (okL [(0, some w.heap.size, none)]) A1 p0.List_ ∧ Ext w w6 ∧ Box w6.heap b1 24 [.int .i64 p0.Dev, .int .i64 p0.Size, .slice A1 p0.List_.length c_1] ∧ Box w6.heap b2 33 [.int .i64 p2.Dev, .int .i64 p2.At] ∧ Box w6.heap b3 24 [.int .i64 0, .int .i64 0, .slice none 0 0] ∧ table_Add.j1 p0 p1 p2 bt46_1 = some r) ?_ ?_
 ·
  refine CW.lex [.L, .X, .W, .W, .W, .W, .W, .W, .W, .W, .W, .L, .W, .W, .W, .L, .W, .W, .L, .W, .L, .W, .X, .W, .W] rfl ?_
  refine RW.load tabOk [.int .i64 p0.Dev, .int .i64 p0.Size, .slice A1 p0.List_.length c_1] (gb1_0.at 0) ⟨rfl, rfl, rfl, rfl⟩ rfl rfl rfl rfl ?_
  obtain ⟨y2, h16, H⟩ := bind_some H
  refine RW.callF (.inl rfl) ent41 ⟨rfl, rfl, rfl, rfl⟩ rfl rfl (table_May.calls k p0 A1 c_1 _ _ gF1_0.all hl1 h16) ?_
  rintro _ w7 ⟨rfl, x5⟩
  refine ⟨_, rfl, x5, ?_⟩
  have sx5 := x5.size
  refine RW.pure tabOk 2 rfl ?_
  by_cases c2 : y2 = true
  ·
   rw [if_pos c2] at H
   refine RW.bool 25 (b' := false) (not_f (c2)) rfl ?_
   refine RW.pure tabOk 5 rfl ?_
   by_cases c3 : p1 < it8_0
   ·
    rw [if_pos c3] at H
    refine RW.bool 30 (b' := true) (decide_eq_true c3) rfl ?_
    refine RW.pure tabOk 16 rfl ?_
    refine RW.done ?_
    have h17 := gF1_0.ext x5
    have h18 := Ext.trans x0_0 x5
    have h19 := gb1_0.ext x5
    have h20 := gb2_0.ext x5
    have h21 := gb3_0.ext x5
    exact NW.J fun a ha => ⟨true, ha.sub ⟨rfl, rfl, rfl, rfl, rfl, trivial⟩, by omega, h17, h18, h19, h20, h21, H⟩
   ·
    rw [if_neg c3] at H
    refine RW.bool 30 (b' := false) (decide_eq_false c3) rfl ?_
    refine RW.pure tabOk 2 rfl ?_
    have h22 := gb1_0.ext x5
    refine RW.load tabOk [.int .i64 p0.Size] ((h22.at 1).take 1 rfl) ⟨rfl, rfl, rfl, rfl⟩ rfl rfl rfl rfl ?_
    refine RW.pure tabOk 3 rfl ?_
    by_cases c4 : p0.Size ≤ p1
    ·
     rw [if_pos c4] at H
     refine RW.bool 36 (b' := true) (decide_eq_true c4) rfl ?_
     refine RW.pure tabOk 10 rfl ?_
     refine RW.done ?_
     have h23 := gF1_0.ext x5
     have h24 := Ext.trans x0_0 x5
     have h25 := gb2_0.ext x5
     have h26 := gb3_0.ext x5
     exact NW.J fun a ha => ⟨true, ha.sub ⟨rfl, rfl, rfl, rfl, rfl, trivial⟩, by omega, h23, h24, h22, h25, h26, H⟩
    ·
     rw [if_neg c4] at H
     refine RW.bool 36 (b' := false) (decide_eq_false c4) rfl ?_
     refine RW.load tabOk [.int .i64 p0.Dev, .int .i64 p0.Size, .slice A1 p0.List_.length c_1] (h22.at 0) ⟨rfl, rfl, rfl, rfl⟩ rfl rfl rfl rfl ?_
     refine RW.pure tabOk 2 rfl ?_
     have h27 := gb2_0.ext x5
     refine RW.load tabOk [.int .i64 p2.Dev] ((h27.at 0).take 1 rfl) ⟨rfl, rfl, rfl, rfl⟩ rfl rfl rfl rfl ?_
     refine RW.pure tabOk 1 rfl ?_
     refine RW.load tabOk [.int .i64 p2.At] (h27.at 1) ⟨rfl, rfl, rfl, rfl⟩ rfl rfl rfl rfl ?_
     refine RW.pure tabOk 1 rfl ?_
     have h28 := gF1_0.ext x5
     obtain ⟨y3, h29, H⟩ := bind_some H
     refine RW.callF (.inl rfl) ent42 ⟨rfl, rfl, rfl, rfl⟩ rfl rfl (table_entry.calls p0 A1 c_1 (⟨p1, 1, p2.Dev, p2.At, 0⟩ : Entry) _ _ h28.all hl1 h29) ?_
     rintro _ w8 ⟨rfl, x6⟩
     refine ⟨_, rfl, x6, ?_⟩
     have sx6 := x6.size
     refine RW.pure tabOk 2 rfl ?_
     refine RW.done ?_
     have h30 := h28.ext x6
     have h31 := Ext.trans (Ext.trans x0_0 x5) x6
     have h32 := h22.ext x6
     have h33 := h27.ext x6
     have h34 := (gb3_0.ext x5).ext x6
     exact NW.J fun a ha => ⟨(!y3), ha.sub ⟨rfl, rfl, rfl, rfl, rfl, trivial⟩, by omega, h30, h31, h32, h33, h34, H⟩
  ·
   rw [if_neg c2] at H
   refine RW.bool 25 (b' := true) (not_t (bool_f c2)) rfl ?_
   refine RW.pure tabOk 21 rfl ?_
   refine RW.done ?_
   have h35 := gF1_0.ext x5
   have h36 := Ext.trans x0_0 x5
   have h37 := gb1_0.ext x5
   have h38 := gb2_0.ext x5
   have h39 := gb3_0.ext x5
   exact NW.J fun a ha => ⟨true, ha.sub ⟨rfl, rfl, rfl, rfl, rfl, trivial⟩, by omega, h35, h36, h37, h38, h39, H⟩
 intro a w6 hJ hp
 obtain ⟨bt46_1, hS, hle, gF1_1, x0_1, gb1_1, gb2_1, gb3_1, H⟩ := hJ
 unfold table_Add.j1 at H
 refine CW.go hp hS ?_
 by_cases c5 : bt46_1 = true
 ·
  rw [if_pos c5] at H
  refine CW.cond_t rfl (c5) ?_
  refine CW.seq ?_
  refine CW.lex [.W, .M, .W] rfl ?_
  refine RW.pure tabOk 1 rfl ?_
  refine RW.storeBox tabOk gb3_1 [.int .i64 0, .int .i64 0, .slice none 0 0] ⟨rfl, rfl, rfl⟩ rfl rfl rfl rfl rfl rfl rfl rfl ?_
  intro w9 x7 h40
  have h41 : Box w9.heap b3 24 [.int .i64 0, .int .i64 0, .slice none 0 0] := h40
  have sx7 := x7.size
  refine RW.pure tabOk 1 rfl ?_
  refine RW.done ?_
  refine NW.next ?_
  refine CW.ret ?_
  refine NW.ret_then ?_
  obtain rfl := Option.some.inj H
  have h42 := Ext.turnB x0_1 x7 (by omega)
  exact NW.ret2 rfl (resOne_cell tabOk (h41.at 0) rfl rfl rfl) (by rfl) ⟨none, 0, rfl, h42, Ow.nil⟩
 ·
  rw [if_neg c5] at H
  refine CW.cond_f rfl (bool_f c5) ?_
  refine CW.skip ?_
  refine NW.next ?_
  refine CW.seq ?_
  refine CW.lex [.L, .X, .M] rfl ?_
  refine RW.load tabOk [.int .i64 p0.Dev, .int .i64 p0.Size, .slice A1 p0.List_.length c_1] (gb1_1.at 0) ⟨rfl, rfl, rfl, rfl⟩ rfl rfl rfl rfl ?_
  obtain ⟨y4, h43, H⟩ := bind_some H
  refine RW.callF (.inl rfl) ent43 ⟨rfl, rfl, rfl, rfl⟩ rfl rfl (table_Own.calls p0 A1 c_1 _ _ gF1_1.all hl1 h43) ?_
  rintro _ w10 ⟨A2, c_2, rfl, x8, h44⟩
  refine ⟨_, rfl, x8, ?_⟩
  have sx8 := x8.size
  have h45 : Ow kEntry 45 w10.heap (okL [(w6.heap.size, some w10.heap.size, some 45)]) (okL []) A2 c_2 y4.List_ := h44.close
  have h46 := gb1_1.ext x8
  refine RW.storeBox tabOk h46 [.int .i64 y4.Dev, .int .i64 y4.Size, .slice A2 y4.List_.length c_2] ⟨rfl, rfl, rfl⟩ rfl rfl rfl rfl rfl rfl rfl rfl ?_
  intro w11 x9 h47
  have h48 : Box w11.heap b1 24 [.int .i64 y4.Dev, .int .i64 y4.Size, .slice A2 y4.List_.length c_2] := h47
  have sx9 := x9.size
  refine RW.done ?_
  refine NW.next ?_
  refine CW.seq ?_
  refine CW.lex [.W, .L, .M] rfl ?_
  refine RW.pure tabOk 1 rfl ?_
  have h49 := (gb2_1.ext x8).turnB x9 (by omega)
  refine RW.load tabOk [.int .i64 p2.Dev, .int .i64 p2.At] (h49.at 0) ⟨rfl, rfl, rfl, rfl⟩ rfl rfl rfl rfl ?_
  refine RW.callFM (R := fun e w12 => ∃ (lb1_2_2 : List Entry) (Ab1_2_2 : Option Addr) (cb1_2_2 : Nat), e = .returned (.tuple #[]) ∧ w11.heap.size ≤ w12.heap.size ∧ Ow kEntry 45 w12.heap (okL [(w6.heap.size, none, some 45)]) (okL []) Ab1_2_2 cb1_2_2 lb1_2_2 ∧ Ext w w12 ∧ Box w12.heap b1 24 [.int .i64 y4.Dev, .int .i64 y4.Size, .slice Ab1_2_2 lb1_2_2.length cb1_2_2] ∧ Box w12.heap b3 24 [.int .i64 0, .int .i64 0, .slice none 0 0] ∧ table_Add.j2 y4 lb1_2_2 = some r) ent44 ⟨rfl, rfl, rfl, rfl⟩ rfl rfl rfl ?_ ?_
  ·
   refine calls_start Try.func44 rfl 70 rfl [.pointer (some ⟨b1, 0, none⟩), .int .i64 p1, .agg #[.int .i64 p2.Dev, .int .i64 p2.At]] rfl ?_
   refine CW.seq ?_
   refine CW.lex [.X] rfl ?_
   refine RW.box (cs := [.int .i64 p2.Dev, .int .i64 p2.At]) (.inl rfl) ⟨rfl, rfl, rfl, rfl⟩ rfl rfl rfl ?_
   intro b4 w13 x10 l4 h50
   have sx10 := x10.size
   have ltb4 := h50.lt
   refine RW.done ?_
   refine NW.next ?_
   refine CW.seqJ (fun a w14 => Sat 70 [(0, .pointer (some ⟨b1, 0, none⟩)), (1, .int .i64 p1), (5, .pointer (some ⟨b4, 0, none⟩))] a ∧ w13.heap.size ≤ w14.heap.size ∧ Ow kEntry 45 w14.heap (okL [(w6.heap.size, some w10.heap.size, some 45)]) (okL []) A2 c_2 y4.List_ ∧ Ext w w14 ∧ Box w14.heap b1 24 [.int .i64 y4.Dev, .int .i64 y4.Size, .slice A2 y4.List_.length c_2] ∧ Box w14.heap b4 33 [.int .i64 p2.Dev, .int .i64 p2.At] ∧ Box w14.heap b3 24 [.int .i64 0, .int .i64 0, .slice none 0 0] ∧ table_Add.j3 p1 p2 y4 = some r) ?_ ?_
   ·
    refine CW.seq ?_
    refine CW.lex [.W, .W, .W, .L, .W, .W, .W] rfl ?_
    refine RW.pure tabOk 3 rfl ?_
    have h51 := h48.ext x10
    refine RW.load tabOk [.slice A2 y4.List_.length c_2] (h51.at 2) ⟨rfl, rfl, rfl, rfl⟩ rfl rfl rfl rfl ?_
    refine RW.pure tabOk 3 rfl ?_
    refine RW.done ?_
    refine NW.next ?_
    refine CW.seq ?_
    refine CW.lex [.W, .W] rfl ?_
    refine RW.pure tabOk 2 rfl ?_
    refine RW.done ?_
    refine NW.next ?_
    by_cases c6 : 0 ≤ (w64 ((y4.List_.length : Int) - 1))
    ·
     rw [if_pos c6] at H
     refine CW.cond_t rfl (decide_eq_true c6) ?_
     refine CW.seq ?_
     refine CW.lex [.W, .W, .W, .L, .W, .W, .L, .X, .M] rfl ?_
     refine RW.pure tabOk 3 rfl ?_
     refine RW.load tabOk [.slice A2 y4.List_.length c_2] (h51.at 2) ⟨rfl, rfl, rfl, rfl⟩ rfl rfl rfl rfl ?_
     refine RW.pure tabOk 1 rfl ?_
     obtain ⟨g2, H⟩ := guard_some H
     have h52 := (h45.turnB x9 h46 ⟨.inl (show (45 : Nat) ≠ 24 by decide), trivial⟩ trivial).ext x10
     obtain ⟨ad2, e2, a2⟩ := kEntry_at h52.slL g2.1 g2.2
     refine RW.index tabOk g2.1 g2.2 e2 ⟨rfl, rfl, rfl, rfl⟩ rfl rfl rfl rfl rfl rfl ?_
     refine RW.load tabOk [.int .i64 ((rd y4.List_ (w64 ((y4.List_.length : Int) - 1))).From), .int .i64 ((rd y4.List_ (w64 ((y4.List_.length : Int) - 1))).Len), .int .i64 ((rd y4.List_ (w64 ((y4.List_.length : Int) - 1))).Dev), .int .i64 ((rd y4.List_ (w64 ((y4.List_.length : Int) - 1))).To), .int .i64 ((rd y4.List_ (w64 ((y4.List_.length : Int) - 1))).Stale)] a2 ⟨rfl, rfl, rfl, rfl⟩ rfl rfl rfl rfl ?_
     refine RW.alloc tabOk (.inl rfl) ⟨rfl, rfl, rfl, rfl⟩ rfl rfl ?_
     intro b5 w15 x11 l5 h53
     have sx11 := x11.size
     have ltb5 := h53.lt
     refine RW.storeBox tabOk h53 [.int .i64 ((rd y4.List_ (w64 ((y4.List_.length : Int) - 1))).From), .int .i64 ((rd y4.List_ (w64 ((y4.List_.length : Int) - 1))).Len), .int .i64 ((rd y4.List_ (w64 ((y4.List_.length : Int) - 1))).Dev), .int .i64 ((rd y4.List_ (w64 ((y4.List_.length : Int) - 1))).To), .int .i64 ((rd y4.List_ (w64 ((y4.List_.length : Int) - 1))).Stale)] ⟨rfl, rfl, rfl⟩ rfl rfl rfl rfl rfl rfl rfl rfl ?_
     intro w16 x12 h54
     have h55 : Box w16.heap b5 45 [.int .i64 ((rd y4.List_ (w64 ((y4.List_.length : Int) - 1))).From), .int .i64 ((rd y4.List_ (w64 ((y4.List_.length : Int) - 1))).Len), .int .i64 ((rd y4.List_ (w64 ((y4.List_.length : Int) - 1))).Dev), .int .i64 ((rd y4.List_ (w64 ((y4.List_.length : Int) - 1))).To), .int .i64 ((rd y4.List_ (w64 ((y4.List_.length : Int) - 1))).Stale)] := h54
     have sx12 := x12.size
     refine RW.done ?_
     refine NW.next ?_
     refine CW.seqJ (fun a w17 => ∃ (bt43_4 : Bool), Sat 70 [(0, .pointer (some ⟨b1, 0, none⟩)), (1, .int .i64 p1), (5, .pointer (some ⟨b4, 0, none⟩)), (6, .int .i64 (w64 ((y4.List_.length : Int) - 1))), (43, .bool bt43_4)] a ∧ w16.heap.size ≤ w17.heap.size ∧ Ow kEntry 45 w17.heap (okL [(w6.heap.size, some w10.heap.size, some 45)]) (okL []) A2 c_2 y4.List_ ∧ Ext w w17 ∧ Box w17.heap b1 24 [.int .i64 y4.Dev, .int .i64 y4.Size, .slice A2 y4.List_.length c_2] ∧ Box w17.heap b4 33 [.int .i64 p2.Dev, .int .i64 p2.At] ∧ Box w17.heap b3 24 [.int .i64 0, .int .i64 0, .slice none 0 0] ∧ table_Add.j4 p1 p2 y4 bt43_4 = some r) ?_ ?_
     ·
      refine CW.lex [.L, .X, .W, .W, .W, .W, .L, .W, .L, .W, .W, .W, .W, .L, .W, .L, .W, .W, .L, .W, .W] rfl ?_
      refine RW.load tabOk [.int .i64 ((rd y4.List_ (w64 ((y4.List_.length : Int) - 1))).From), .int .i64 ((rd y4.List_ (w64 ((y4.List_.length : Int) - 1))).Len), .int .i64 ((rd y4.List_ (w64 ((y4.List_.length : Int) - 1))).Dev), .int .i64 ((rd y4.List_ (w64 ((y4.List_.length : Int) - 1))).To), .int .i64 ((rd y4.List_ (w64 ((y4.List_.length : Int) - 1))).Stale)] (h55.at 0) ⟨rfl, rfl, rfl, rfl⟩ rfl rfl rfl rfl ?_
      obtain ⟨y5, h56, H⟩ := bind_some H
      refine RW.callF (.inl rfl) ent40 ⟨rfl, rfl, rfl, rfl⟩ rfl rfl (table_end.calls (rd y4.List_ (w64 ((y4.List_.length : Int) - 1))) _ _ h56) ?_
      rintro _ w18 ⟨rfl, x13⟩
      refine ⟨_, rfl, x13, ?_⟩
      have sx13 := x13.size
      refine RW.pure tabOk 3 rfl ?_
      by_cases c7 : y5 = p1
      ·
       rw [if_pos c7] at H
       refine RW.bool 27 (b' := true) (beq_t c7) rfl ?_
       refine RW.pure tabOk 1 rfl ?_
       have h57 := h55.ext x13
       refine RW.load tabOk [.int .i64 ((rd y4.List_ (w64 ((y4.List_.length : Int) - 1))).Dev)] ((h57.at 2).take 1 rfl) ⟨rfl, rfl, rfl, rfl⟩ rfl rfl rfl rfl ?_
       refine RW.pure tabOk 1 rfl ?_
       have h58 := ((h50.ext x11).turnB x12 (by omega)).ext x13
       refine RW.load tabOk [.int .i64 p2.Dev] ((h58.at 0).take 1 rfl) ⟨rfl, rfl, rfl, rfl⟩ rfl rfl rfl rfl ?_
       refine RW.pure tabOk 3 rfl ?_
       by_cases c8 : (rd y4.List_ (w64 ((y4.List_.length : Int) - 1))).Dev = p2.Dev
       ·
        rw [if_pos c8] at H
        refine RW.bool 34 (b' := true) (beq_t c8) rfl ?_
        refine RW.pure tabOk 1 rfl ?_
        refine RW.load tabOk [.int .i64 ((rd y4.List_ (w64 ((y4.List_.length : Int) - 1))).To)] ((h57.at 3).take 1 rfl) ⟨rfl, rfl, rfl, rfl⟩ rfl rfl rfl rfl ?_
        refine RW.pure tabOk 1 rfl ?_
        refine RW.load tabOk [.int .i64 ((rd y4.List_ (w64 ((y4.List_.length : Int) - 1))).Len)] ((h57.at 1).take 1 rfl) ⟨rfl, rfl, rfl, rfl⟩ rfl rfl rfl rfl ?_
        refine RW.pure tabOk 2 rfl ?_
        refine RW.load tabOk [.int .i64 p2.At] (h58.at 1) ⟨rfl, rfl, rfl, rfl⟩ rfl rfl rfl rfl ?_
        refine RW.pure tabOk 2 rfl ?_
        refine RW.done ?_
        have h59 := ((h52.ext x11).turnB x12 h53 ⟨.inr (by omega), trivial⟩ trivial).ext x13
        have h60 := Ext.trans (Ext.turnB (Ext.trans (Ext.trans (Ext.turnB (Ext.trans x0_1 x8) x9 (by omega)) x10) x11) x12 (by omega)) x13
        have h61 := ((h51.ext x11).turnB x12 (by omega)).ext x13
        have h62 := (((((gb3_1.ext x8).turnB x9 (by omega)).ext x10).ext x11).turnB x12 (by omega)).ext x13
        exact NW.J fun a ha => ⟨((w64 (((rd y4.List_ (w64 ((y4.List_.length : Int) - 1))).To) + ((rd y4.List_ (w64 ((y4.List_.length : Int) - 1))).Len))) == p2.At), ha.sub ⟨rfl, rfl, rfl, rfl, rfl, trivial⟩, by omega, h59, h60, h61, h58, h62, H⟩
       ·
        rw [if_neg c8] at H
        refine RW.bool 34 (b' := false) (beq_f c8) rfl ?_
        refine RW.pure tabOk 9 rfl ?_
        refine RW.done ?_
        have h63 := ((h52.ext x11).turnB x12 h53 ⟨.inr (by omega), trivial⟩ trivial).ext x13
        have h64 := Ext.trans (Ext.turnB (Ext.trans (Ext.trans (Ext.turnB (Ext.trans x0_1 x8) x9 (by omega)) x10) x11) x12 (by omega)) x13
        have h65 := ((h51.ext x11).turnB x12 (by omega)).ext x13
        have h66 := (((((gb3_1.ext x8).turnB x9 (by omega)).ext x10).ext x11).turnB x12 (by omega)).ext x13
        exact NW.J fun a ha => ⟨false, ha.sub ⟨rfl, rfl, rfl, rfl, rfl, trivial⟩, by omega, h63, h64, h65, h58, h66, H⟩
      ·
       rw [if_neg c7] at H
       refine RW.bool 27 (b' := false) (beq_f c7) rfl ?_
       refine RW.pure tabOk 16 rfl ?_
       refine RW.done ?_
       have h67 := ((h52.ext x11).turnB x12 h53 ⟨.inr (by omega), trivial⟩ trivial).ext x13
       have h68 := Ext.trans (Ext.turnB (Ext.trans (Ext.trans (Ext.turnB (Ext.trans x0_1 x8) x9 (by omega)) x10) x11) x12 (by omega)) x13
       have h69 := ((h51.ext x11).turnB x12 (by omega)).ext x13
       have h70 := ((h50.ext x11).turnB x12 (by omega)).ext x13
       have h71 := (((((gb3_1.ext x8).turnB x9 (by omega)).ext x10).ext x11).turnB x12 (by omega)).ext x13
       exact NW.J fun a ha => ⟨false, ha.sub ⟨rfl, rfl, rfl, rfl, rfl, trivial⟩, by omega, h67, h68, h69, h70, h71, H⟩
     intro a w17 hJ hp
     obtain ⟨bt43_4, hS, hle, gF2_4, x0_4, gb1_4, gb4_4, gb3_4, H⟩ := hJ
     unfold table_Add.j4 at H
     refine CW.go hp hS ?_
     by_cases c9 : bt43_4 = true
     ·
      rw [if_pos c9] at H
      refine CW.cond_t rfl (c9) ?_
      refine CW.seq ?_
      refine CW.lex [.W, .W, .W, .L, .W, .W, .W, .L, .W, .W, .W, .M] rfl ?_
      refine RW.pure tabOk 3 rfl ?_
      refine RW.load tabOk [.slice A2 y4.List_.length c_2] (gb1_4.at 2) ⟨rfl, rfl, rfl, rfl⟩ rfl rfl rfl rfl ?_
      refine RW.pure tabOk 1 rfl ?_
      obtain ⟨g3, H⟩ := guard_some H
      obtain ⟨ad3, e3, a3⟩ := kEntry_at gF2_4.slL g3.1 g3.2
      refine RW.index tabOk g3.1 g3.2 e3 ⟨rfl, rfl, rfl, rfl⟩ rfl rfl rfl rfl rfl rfl ?_
      refine RW.pure tabOk 1 rfl ?_
      refine RW.load tabOk [.int .i64 ((rd y4.List_ (w64 ((y4.List_.length : Int) - 1))).Len)] ((a3.fld 1).take 1 rfl) ⟨rfl, rfl, rfl, rfl⟩ rfl rfl rfl rfl ?_
      refine RW.pure tabOk 1 rfl ?_
      obtain ⟨g4, H⟩ := guard_some H
      obtain ⟨ad4, e4, a4⟩ := kEntry_at gF2_4.slL g4.1 g4.2
      refine RW.index tabOk g4.1 g4.2 e4 ⟨rfl, rfl, rfl, rfl⟩ rfl rfl rfl rfl rfl rfl ?_
      refine RW.pure tabOk 1 rfl ?_
      refine RW.storeElL (y := (⟨(rd y4.List_ (w64 ((y4.List_.length : Int) - 1))).From, w64 (((rd y4.List_ (w64 ((y4.List_.length : Int) - 1))).Len) + 1), (rd y4.List_ (w64 ((y4.List_.length : Int) - 1))).Dev, (rd y4.List_ (w64 ((y4.List_.length : Int) - 1))).To, (rd y4.List_ (w64 ((y4.List_.length : Int) - 1))).Stale⟩ : Entry)) (lv := []) (k := 1) tabOk gF2_4 (j := (w64 ((y4.List_.length : Int) - 1)).toNat) (by have := g4; omega) default [.int .i64 (w64 (((rd y4.List_ (w64 ((y4.List_.length : Int) - 1))).Len) + 1))] (fun cs ok' hr => by obtain rfl := kEntry_open hr; exact ⟨by simp, kEntry_mk (⟨(rd y4.List_ (w64 ((y4.List_.length : Int) - 1))).From, w64 (((rd y4.List_ (w64 ((y4.List_.length : Int) - 1))).Len) + 1), (rd y4.List_ (w64 ((y4.List_.length : Int) - 1))).Dev, (rd y4.List_ (w64 ((y4.List_.length : Int) - 1))).To, (rd y4.List_ (w64 ((y4.List_.length : Int) - 1))).Stale⟩ : Entry)⟩) trivial ⟨rfl, rfl, rfl⟩ rfl rfl e4 rfl rfl rfl rfl rfl ?_
      intro w19 x14 h72
      have sx14 := x14.size
      have h73 := h72.sub (l' := [(w6.heap.size, some w10.heap.size, some 45)]) (li' := []) ⟨(.inl ⟨by omega, by omega, rfl⟩), trivial⟩ trivial
      have h74 := gb1_4.turnL x14 (.inl (by decide))
      have h75 : Box w19.heap b1 24 [.int .i64 y4.Dev, .int .i64 y4.Size, .slice A2 (y4.List_.set (w64 ((y4.List_.length : Int) - 1)).toNat (⟨(rd y4.List_ (w64 ((y4.List_.length : Int) - 1))).From, w64 (((rd y4.List_ (w64 ((y4.List_.length : Int) - 1))).Len) + 1), (rd y4.List_ (w64 ((y4.List_.length : Int) - 1))).Dev, (rd y4.List_ (w64 ((y4.List_.length : Int) - 1))).To, (rd y4.List_ (w64 ((y4.List_.length : Int) - 1))).Stale⟩ : Entry)).length c_2] := by simpa only [List.length_set] using h74
      refine RW.done ?_
      refine NW.next ?_
      refine CW.ret ?_
      refine NW.ret_then ?_
      have h76 := Ext.turn x0_4 x14 ⟨by omega, trivial⟩
      have h77 := gb3_4.turnL x14 (.inl (by decide))
      exact NW.ret0 rfl ⟨(y4.List_.set (w64 ((y4.List_.length : Int) - 1)).toNat (⟨(rd y4.List_ (w64 ((y4.List_.length : Int) - 1))).From, w64 (((rd y4.List_ (w64 ((y4.List_.length : Int) - 1))).Len) + 1), (rd y4.List_ (w64 ((y4.List_.length : Int) - 1))).Dev, (rd y4.List_ (w64 ((y4.List_.length : Int) - 1))).To, (rd y4.List_ (w64 ((y4.List_.length : Int) - 1))).Stale⟩ : Entry)), A2, c_2, rfl, by omega, (h73.sub ⟨(.inl ⟨by omega, trivial, rfl⟩), trivial⟩ trivial), h76, h75, h77, H⟩
     ·
      rw [if_neg c9] at H
      refine CW.cond_f rfl (bool_f c9) ?_
      refine CW.skip ?_
      exact NW.J fun a ha => ⟨ha.sub ⟨rfl, rfl, rfl, trivial⟩, by omega, gF2_4, x0_4, gb1_4, gb4_4, gb3_4, H⟩
    ·
     rw [if_neg c6] at H
     refine CW.cond_f rfl (decide_eq_false c6) ?_
     refine CW.skip ?_
     have h78 := (h45.turnB x9 h46 ⟨.inl (show (45 : Nat) ≠ 24 by decide), trivial⟩ trivial).ext x10
     have h79 := Ext.trans (Ext.turnB (Ext.trans x0_1 x8) x9 (by omega)) x10
     have h80 := ((gb3_1.ext x8).turnB x9 (by omega)).ext x10
     exact NW.J fun a ha => ⟨ha.sub ⟨rfl, rfl, rfl, trivial⟩, by omega, h78, h79, h51, h50, h80, H⟩
   intro a w14 hJ hp
   obtain ⟨hS, hle, gF2_3, x0_3, gb1_3, gb4_3, gb3_3, H⟩ := hJ
   unfold table_Add.j3 at H
   refine CW.go hp hS ?_
   refine CW.ord [0, 0, 2, 6, 14, 0, 0, 64, 0, 256, 992, 2016, 4094, 8191, 16383, 32767] (ofL [(0, .W), (1, .W), (2, .W), (3, .W), (5, .W), (6, .W), (8, .W), (4, .L), (7, .L), (9, .L), (10, .W), (11, .X), (12, .M), (13, .W), (14, .W), (15, .M)] .nil) mixed (by kernel_rfl) ?_
   intro w20 x15
   have sx15 := x15.size
   refine RW.pure tabOk 7 rfl ?_
   have h81 := gb1_3.ext x15
   refine RW.load tabOk [.slice A2 y4.List_.length c_2] (h81.at 2) ⟨rfl, rfl, rfl, rfl⟩ rfl rfl rfl rfl ?_
   have h82 := gb4_3.ext x15
   refine RW.load tabOk [.int .i64 p2.Dev] ((h82.at 0).take 1 rfl) ⟨rfl, rfl, rfl, rfl⟩ rfl rfl rfl rfl ?_
   refine RW.load tabOk [.int .i64 p2.At] (h82.at 1) ⟨rfl, rfl, rfl, rfl⟩ rfl rfl rfl rfl ?_
   refine RW.pure tabOk 1 rfl ?_
   refine RW.buildSlice (cs := [.int .i64 p1, .int .i64 1, .int .i64 p2.Dev, .int .i64 p2.At, .int .i64 0]) tabOk (.inl rfl) ⟨rfl, rfl, rfl, rfl⟩ rfl rfl rfl rfl rfl rfl rfl ?_
   intro b6 w21 x16 l6 h83
   have sx16 := x16.size
   have ltb6 := h83.lt
   have h84 := (gF2_3.ext x15).ext x16
   obtain ⟨g5, H⟩ := guard_some H
   refine RW.append1L (d := kEntry) (v := (⟨p1, 1, p2.Dev, p2.At, 0⟩ : Entry)) (l := [(w6.heap.size, some w10.heap.size, some 45)]) (li := []) (ly := []) (xs := y4.List_) tabOk h84 h83 (kEntry_mk (⟨p1, 1, p2.Dev, p2.At, 0⟩ : Entry)) trivial (by simp only [maxLen]; omega) g5 ⟨rfl, rfl, rfl, rfl⟩ rfl rfl rfl rfl rfl rfl rfl ?_
   intro A3 c_3 w22 x17 h85
   have sx17 := x17.size
   have h86 := h85.close.sub (l' := [(w6.heap.size, some w22.heap.size, some 45)]) (li' := []) ⟨(.inl ⟨by omega, by omega, rfl⟩), ⟨(.inl ⟨by omega, by omega, rfl⟩), trivial⟩⟩ trivial
   refine RW.pure tabOk 2 rfl ?_
   have h87 := (h81.ext x16).turnL x17 (.inl (by decide))
   refine RW.storeBox tabOk h87 [.slice A3 (y4.List_ ++ [(⟨p1, 1, p2.Dev, p2.At, 0⟩ : Entry)]).length c_3] ⟨rfl, rfl, rfl⟩ rfl rfl rfl rfl rfl rfl rfl rfl ?_
   intro w23 x18 h88
   have h89 : Box w23.heap b1 24 [.int .i64 y4.Dev, .int .i64 y4.Size, .slice A3 (y4.List_ ++ [(⟨p1, 1, p2.Dev, p2.At, 0⟩ : Entry)]).length c_3] := h88
   have sx18 := x18.size
   refine RW.done ?_
   refine NW.end_ ?_
   have h90 := h86.turnB x18 h87 ⟨.inl (show (45 : Nat) ≠ 24 by decide), trivial⟩ trivial
   have h91 := Ext.turnB (Ext.turn (Ext.trans (Ext.trans x0_3 x15) x16) x17 ⟨by omega, trivial⟩) x18 (by omega)
   have h92 := (((gb3_3.ext x15).ext x16).turnL x17 (.inl (by decide))).turnB x18 (by omega)
   exact NW.ret0 rfl ⟨(y4.List_ ++ [(⟨p1, 1, p2.Dev, p2.At, 0⟩ : Entry)]), A3, c_3, rfl, by omega, (h90.sub ⟨(.inl ⟨by omega, trivial, rfl⟩), trivial⟩ trivial), h91, h89, h92, H⟩
  rintro _ w12 ⟨lb1_2_2, Ab1_2_2, cb1_2_2, rfl, hle, fb1_2_2, x0_2, gb1_2, gb3_2, H⟩
  refine ⟨_, rfl, ?_⟩
  unfold table_Add.j2 at H
  have h93 : Ow kEntry 45 w12.heap (okL [(w6.heap.size, some w12.heap.size, some 45)]) (okL []) Ab1_2_2 cb1_2_2 lb1_2_2 := fb1_2_2.close
  refine RW.done ?_
  refine NW.next ?_
  refine CW.seq ?_
  refine CW.lex [.L, .M, .W] rfl ?_
  refine RW.load tabOk [.int .i64 y4.Dev, .int .i64 y4.Size, .slice Ab1_2_2 lb1_2_2.length cb1_2_2] (gb1_2.at 0) ⟨rfl, rfl, rfl, rfl⟩ rfl rfl rfl rfl ?_
  refine RW.storeBox tabOk gb3_2 [.int .i64 y4.Dev, .int .i64 y4.Size, .slice Ab1_2_2 lb1_2_2.length cb1_2_2] ⟨rfl, rfl, rfl⟩ rfl rfl rfl rfl rfl rfl rfl rfl ?_
  intro w24 x19 h94
  have h95 : Box w24.heap b3 24 [.int .i64 y4.Dev, .int .i64 y4.Size, .slice Ab1_2_2 lb1_2_2.length cb1_2_2] := h94
  have sx19 := x19.size
  refine RW.pure tabOk 1 rfl ?_
  refine RW.done ?_
  refine NW.next ?_
  refine CW.ret ?_
  have h96 := h93.turnB x19 gb3_2 ⟨.inl (show (45 : Nat) ≠ 24 by decide), trivial⟩ trivial
  obtain rfl := Option.some.inj H
  have h97 := Ext.turnB x0_2 x19 (by omega)
  exact NW.ret2 rfl (resOne_cell tabOk (h95.at 0) rfl rfl rfl) (by rfl) ⟨Ab1_2_2, cb1_2_2, rfl, h97, (h96.sub (l' := [(w.heap.size, none, some 45)]) (li' := []) ⟨(.inl ⟨by omega, trivial, rfl⟩), trivial⟩ trivial)⟩

set_option maxHeartbeats 4000000 in
set_option maxRecDepth 100000 in
theorem hermitagelaw8_num.calls (p0 : Int) (r : Int) (w : World) (H : hermitagelaw8_num.f p0 = some r) :
    Calls Try.prog 13 #[.int .i64 p0] w fun e w' => e = .returned (.int .i64 r) ∧ Ext w w' := by
 have x0 : Ext w w := Upd.refl _ w
 unfold hermitagelaw8_num.f at H
 refine calls_start Try.func13 rfl 4 rfl [.int .i64 p0] rfl ?_
 refine CW.seq ?_
 refine CW.lex [.W] rfl ?_
 refine RW.pure tabOk 1 rfl ?_
 refine RW.done ?_
 refine NW.next ?_
 refine CW.seq ?_
 refine CW.lex [.W, .W] rfl ?_
 refine RW.pure tabOk 2 rfl ?_
 refine RW.done ?_
 refine NW.next ?_
 refine CW.ret ?_
 obtain rfl := Option.some.inj H
 exact NW.ret1 rfl (by rfl) ⟨rfl, x0⟩

set_option maxHeartbeats 4000000 in
set_option maxRecDepth 100000 in
theorem table_Range.calls (k : Nat) (p0 : Table) (A1 : Option Addr) (c_1 : Nat) (p1 : Int) (p2 : Int) (r : (List Entry) × Int) (w : World) (hs1 : Sl kEntry w.heap okAll A1 p0.List_) (hl1 : p0.List_.length ≤ c_1) (H : table_Range.f k p0 p1 p2 = some r) :
    Calls Try.prog 14 #[.agg #[.int .i64 p0.Dev, .int .i64 p0.Size, .slice A1 p0.List_.length c_1], .int .i64 p1, .int .i64 p2] w fun e w' => ∃ (B1 : Option Addr) (d1 : Nat), e = .returned (.tuple #[.slice B1 r.1.length d1, .int .i64 r.2]) ∧ Ext w w' ∧ Ow kEntry 45 w'.heap (okL [(w.heap.size, none, some 45)]) (okL []) B1 d1 r.1 := by
 have h1 : Sl kEntry w.heap (okL [(0, some w.heap.size, none)]) A1 p0.List_ := hs1.old _ rfl
 have x0 : Ext w w := Upd.refl _ w
 unfold table_Range.f at H
 refine calls_start Try.func14 rfl 71 rfl [.agg #[.int .i64 p0.Dev, .int .i64 p0.Size, .slice A1 p0.List_.length c_1], .int .i64 p1, .int .i64 p2] rfl ?_
 refine CW.seq ?_
 refine CW.lex [.X, .W, .W] rfl ?_
 refine RW.box (cs := [.int .i64 p0.Dev, .int .i64 p0.Size, .slice A1 p0.List_.length c_1]) (.inl rfl) ⟨rfl, rfl, rfl, rfl⟩ rfl rfl rfl ?_
 intro b1 w1 x1 l1 h2
 have sx1 := x1.size
 have ltb1 := h2.lt
 refine RW.pure tabOk 2 rfl ?_
 refine RW.done ?_
 refine NW.next ?_
 refine CW.seq ?_
 refine CW.seqJ (fun a w2 => ∃ (bt23_0 : Bool), Sat 71 [(1, .int .i64 p1), (2, .int .i64 p2), (3, .pointer (some ⟨b1, 0, none⟩)), (23, .bool bt23_0)] a ∧ w1.heap.size ≤ w2.heap.size ∧ Sl kEntry w2.heap (okL [(0, some w.heap.size, none)]) A1 p0.List_ ∧ Ext w w2 ∧ Box w2.heap b1 24 [.int .i64 p0.Dev, .int .i64 p0.Size, .slice A1 p0.List_.length c_1] ∧ table_Range.j0 p0 p1 p2 k bt23_0 = some r) ?_ ?_
 ·
  refine CW.lex [.L, .X, .W, .W, .W, .W, .W, .W, .W, .W, .W] rfl ?_
  refine RW.load tabOk [.int .i64 p0.Dev, .int .i64 p0.Size, .slice A1 p0.List_.length c_1] (h2.at 0) ⟨rfl, rfl, rfl, rfl⟩ rfl rfl rfl rfl ?_
  have h3 := h1.ext x1
  obtain ⟨y1, h4, H⟩ := bind_some H
  refine RW.callF (.inl rfl) ent41 ⟨rfl, rfl, rfl, rfl⟩ rfl rfl (table_May.calls k p0 A1 c_1 _ _ h3.all hl1 h4) ?_
  rintro _ w3 ⟨rfl, x2⟩
  refine ⟨_, rfl, x2, ?_⟩
  have sx2 := x2.size
  refine RW.pure tabOk 2 rfl ?_
  by_cases c1 : y1 = true
  ·
   rw [if_pos c1] at H
   refine RW.bool 16 (b' := false) (not_f (c1)) rfl ?_
   refine RW.pure tabOk 4 rfl ?_
   by_cases c2 : p2 < 0
   ·
    rw [if_pos c2] at H
    refine RW.bool 20 (b' := true) (decide_eq_true c2) rfl ?_
    refine RW.pure tabOk 3 rfl ?_
    refine RW.done ?_
    have h5 := h3.ext x2
    have h6 := Ext.trans (Ext.trans x0 x1) x2
    have h7 := h2.ext x2
    exact NW.J fun a ha => ⟨true, ha.sub ⟨rfl, rfl, rfl, rfl, trivial⟩, by omega, h5, h6, h7, H⟩
   ·
    rw [if_neg c2] at H
    refine RW.bool 20 (b' := false) (decide_eq_false c2) rfl ?_
    refine RW.pure tabOk 3 rfl ?_
    refine RW.done ?_
    have h8 := h3.ext x2
    have h9 := Ext.trans (Ext.trans x0 x1) x2
    have h10 := h2.ext x2
    exact NW.J fun a ha => ⟨(decide (64 < p2)), ha.sub ⟨rfl, rfl, rfl, rfl, trivial⟩, by omega, h8, h9, h10, H⟩
  ·
   rw [if_neg c1] at H
   refine RW.bool 16 (b' := true) (not_t (bool_f c1)) rfl ?_
   refine RW.pure tabOk 7 rfl ?_
   refine RW.done ?_
   have h11 := h3.ext x2
   have h12 := Ext.trans (Ext.trans x0 x1) x2
   have h13 := h2.ext x2
   exact NW.J fun a ha => ⟨true, ha.sub ⟨rfl, rfl, rfl, rfl, trivial⟩, by omega, h11, h12, h13, H⟩
 intro a w2 hJ hp
 obtain ⟨bt23_0, hS, hle, gF1_0, x0_0, gb1_0, H⟩ := hJ
 unfold table_Range.j0 at H
 refine CW.go hp hS ?_
 by_cases c3 : bt23_0 = true
 ·
  rw [if_pos c3] at H
  refine CW.cond_t rfl (c3) ?_
  refine CW.seq ?_
  refine CW.lex [.W, .W] rfl ?_
  refine RW.pure tabOk 2 rfl ?_
  refine RW.done ?_
  refine NW.next ?_
  refine CW.ret ?_
  refine NW.ret_then ?_
  obtain rfl := Option.some.inj H
  exact NW.ret2 rfl (by rfl) (by rfl) ⟨none, 0, rfl, x0_0, Ow.nil⟩
 ·
  rw [if_neg c3] at H
  refine CW.cond_f rfl (bool_f c3) ?_
  refine CW.skip ?_
  refine NW.next ?_
  refine CW.seq ?_
  refine CW.lex [.W] rfl ?_
  refine RW.pure tabOk 1 rfl ?_
  refine RW.done ?_
  refine NW.next ?_
  refine CW.seq ?_
  refine CW.seqJ (fun a w4 => ∃ (bt31_1 : Bool), Sat 71 [(1, .int .i64 p1), (2, .int .i64 p2), (3, .pointer (some ⟨b1, 0, none⟩)), (8, .slice none 0 0), (31, .bool bt31_1)] a ∧ w2.heap.size ≤ w4.heap.size ∧ Sl kEntry w4.heap (okL [(0, some w.heap.size, none)]) A1 p0.List_ ∧ Ext w w4 ∧ Box w4.heap b1 24 [.int .i64 p0.Dev, .int .i64 p0.Size, .slice A1 p0.List_.length c_1] ∧ table_Range.j1 p0 p1 p2 k bt31_1 = some r) ?_ ?_
  ·
   refine CW.lex [.W, .W, .L, .W, .W, .W, .W, .W] rfl ?_
   refine RW.pure tabOk 2 rfl ?_
   refine RW.load tabOk [.int .i64 p0.Size] ((gb1_0.at 1).take 1 rfl) ⟨rfl, rfl, rfl, rfl⟩ rfl rfl rfl rfl ?_
   refine RW.pure tabOk 2 rfl ?_
   by_cases c4 : p0.Size < p1
   ·
    rw [if_pos c4] at H
    refine RW.bool 28 (b' := true) (decide_eq_true c4) rfl ?_
    refine RW.pure tabOk 3 rfl ?_
    refine RW.done ?_
    exact NW.J fun a ha => ⟨true, ha.sub ⟨rfl, rfl, rfl, rfl, rfl, trivial⟩, by omega, gF1_0, x0_0, gb1_0, H⟩
   ·
    rw [if_neg c4] at H
    refine RW.bool 28 (b' := false) (decide_eq_false c4) rfl ?_
    refine RW.pure tabOk 3 rfl ?_
    refine RW.done ?_
    exact NW.J fun a ha => ⟨(decide (p1 < (-64))), ha.sub ⟨rfl, rfl, rfl, rfl, rfl, trivial⟩, by omega, gF1_0, x0_0, gb1_0, H⟩
  intro a w4 hJ hp
  obtain ⟨bt31_1, hS, hle, gF1_1, x0_1, gb1_1, H⟩ := hJ
  unfold table_Range.j1 at H
  refine CW.go hp hS ?_
  by_cases c5 : bt31_1 = true
  ·
   rw [if_pos c5] at H
   refine CW.cond_t rfl (c5) ?_
   refine CW.seq ?_
   refine CW.lex [.W, .W] rfl ?_
   refine RW.pure tabOk 2 rfl ?_
   refine RW.done ?_
   refine NW.next ?_
   refine CW.ret ?_
   refine NW.ret_then ?_
   obtain rfl := Option.some.inj H
   exact NW.ret2 rfl (by rfl) (by rfl) ⟨none, 0, rfl, x0_1, Ow.nil⟩
  ·
   rw [if_neg c5] at H
   refine CW.cond_f rfl (bool_f c5) ?_
   refine CW.skip ?_
   refine NW.next ?_
   refine CW.seq ?_
   refine CW.seq ?_
   refine CW.lex [.W, .L, .W, .W] rfl ?_
   refine RW.pure tabOk 1 rfl ?_
   refine RW.load tabOk [.slice A1 p0.List_.length c_1] (gb1_1.at 2) ⟨rfl, rfl, rfl, rfl⟩ rfl rfl rfl rfl ?_
   refine RW.pure tabOk 2 rfl ?_
   refine RW.done ?_
   refine NW.next ?_
   refine CW.block ?_
   refine CW.loop (fun n1 a w5 => ∃ (lt8_2 : List Entry) (At8_2 : Option Addr) (ct8_2 : Nat) (it35_2 : Int), Sat 71 [(1, .int .i64 p1), (2, .int .i64 p2), (8, .slice At8_2 lt8_2.length ct8_2), (33, .slice A1 p0.List_.length c_1), (34, .int .i64 (p0.List_.length : Int)), (35, .int .i64 it35_2)] a ∧ w4.heap.size ≤ w5.heap.size ∧ Ow kEntry 45 w5.heap (okL [(w4.heap.size, none, some 45)]) (okL []) At8_2 ct8_2 lt8_2 ∧ Sl kEntry w5.heap (okL [(0, some w.heap.size, none)]) A1 p0.List_ ∧ Ext w w5 ∧ table_Range.l0 p0 p1 p2 n1 lt8_2 it35_2 = some r) k ?_ ?_
   · exact fun a ha => ⟨([] : List Entry), none, 0, 0, ha.sub ⟨rfl, rfl, rfl, rfl, rfl, rfl, trivial⟩, by omega, Ow.nil, gF1_1, x0_1, H⟩
   intro n1 a w5 hI hp
   obtain ⟨lt8_2, At8_2, ct8_2, it35_2, hS, hle, ft8_2, gF1_2, x0_2, H⟩ := hI
   cases n1 with
   | zero => cases H
   | succ n1 =>
    rw [table_Range.l0] at H
    refine CW.go hp hS ?_
    have h14 : Ow kEntry 45 w5.heap (okL [(w4.heap.size, some w5.heap.size, some 45)]) (okL []) At8_2 ct8_2 lt8_2 := ft8_2.close
    refine CW.seq ?_
    refine CW.lex [.W] rfl ?_
    refine RW.pure tabOk 1 rfl ?_
    refine RW.done ?_
    refine NW.next ?_
    refine CW.seq ?_
    by_cases c6 : it35_2 < (p0.List_.length : Int)
    ·
     rw [if_pos c6] at H
     refine CW.cond_t rfl (decide_eq_true c6) ?_
     refine CW.skip ?_
     refine NW.next ?_
     refine CW.seqJ (fun a w6 => ∃ (lt8_3 : List Entry) (At8_3 : Option Addr) (ct8_3 : Nat), Sat 71 [(1, .int .i64 p1), (2, .int .i64 p2), (8, .slice At8_3 lt8_3.length ct8_3), (33, .slice A1 p0.List_.length c_1), (34, .int .i64 (p0.List_.length : Int)), (35, .int .i64 it35_2)] a ∧ w5.heap.size ≤ w6.heap.size ∧ Ow kEntry 45 w6.heap (okL [(w4.heap.size, none, some 45)]) (okL []) At8_3 ct8_3 lt8_3 ∧ Sl kEntry w6.heap (okL [(0, some w.heap.size, none)]) A1 p0.List_ ∧ Ext w w6 ∧ table_Range.j2 it35_2 (table_Range.l0 p0 p1 p2 n1) lt8_3 = some r) ?_ ?_
     ·
      refine CW.block ?_
      refine CW.seq ?_
      refine CW.lex [.W, .L, .X, .M] rfl ?_
      obtain ⟨g1, H⟩ := guard_some H
      obtain ⟨ad1, e1, a1⟩ := kEntry_at gF1_2 g1.1 g1.2
      refine RW.index tabOk g1.1 g1.2 e1 ⟨rfl, rfl, rfl, rfl⟩ rfl rfl rfl rfl rfl rfl ?_
      refine RW.load tabOk [.int .i64 ((rd p0.List_ it35_2).From), .int .i64 ((rd p0.List_ it35_2).Len), .int .i64 ((rd p0.List_ it35_2).Dev), .int .i64 ((rd p0.List_ it35_2).To), .int .i64 ((rd p0.List_ it35_2).Stale)] a1 ⟨rfl, rfl, rfl, rfl⟩ rfl rfl rfl rfl ?_
      refine RW.alloc tabOk (.inl rfl) ⟨rfl, rfl, rfl, rfl⟩ rfl rfl ?_
      intro b2 w7 x3 l2 h15
      have sx3 := x3.size
      have ltb2 := h15.lt
      refine RW.storeBox tabOk h15 [.int .i64 ((rd p0.List_ it35_2).From), .int .i64 ((rd p0.List_ it35_2).Len), .int .i64 ((rd p0.List_ it35_2).Dev), .int .i64 ((rd p0.List_ it35_2).To), .int .i64 ((rd p0.List_ it35_2).Stale)] ⟨rfl, rfl, rfl⟩ rfl rfl rfl rfl rfl rfl rfl rfl ?_
      intro w8 x4 h16
      have h17 : Box w8.heap b2 45 [.int .i64 ((rd p0.List_ it35_2).From), .int .i64 ((rd p0.List_ it35_2).Len), .int .i64 ((rd p0.List_ it35_2).Dev), .int .i64 ((rd p0.List_ it35_2).To), .int .i64 ((rd p0.List_ it35_2).Stale)] := h16
      have sx4 := x4.size
      refine RW.done ?_
      refine NW.next ?_
      refine CW.seq ?_
      refine CW.ord [0, 0, 2, 7, 0, 0, 48, 0, 128, 496, 399, 2047] (ofL [(0, .W), (1, .W), (4, .W), (5, .W), (6, .W), (2, .L), (3, .W), (7, .L), (8, .X), (9, .W), (10, .W), (11, .W)] .nil) mixed (by kernel_rfl) ?_
      intro w9 x5
      have sx5 := x5.size
      refine RW.pure tabOk 5 rfl ?_
      have h18 := h17.ext x5
      refine RW.load tabOk [.int .i64 ((rd p0.List_ it35_2).From)] ((h18.at 0).take 1 rfl) ⟨rfl, rfl, rfl, rfl⟩ rfl rfl rfl rfl ?_
      refine RW.maxmin ⟨rfl, rfl, rfl, rfl⟩ rfl rfl rfl rfl ?_
      refine RW.load tabOk [.int .i64 ((rd p0.List_ it35_2).From), .int .i64 ((rd p0.List_ it35_2).Len), .int .i64 ((rd p0.List_ it35_2).Dev), .int .i64 ((rd p0.List_ it35_2).To), .int .i64 ((rd p0.List_ it35_2).Stale)] (h18.at 0) ⟨rfl, rfl, rfl, rfl⟩ rfl rfl rfl rfl ?_
      obtain ⟨y2, h19, H⟩ := bind_some H
      refine RW.callF (.inl rfl) ent40 ⟨rfl, rfl, rfl, rfl⟩ rfl rfl (table_end.calls (rd p0.List_ it35_2) _ _ h19) ?_
      rintro _ w10 ⟨rfl, x6⟩
      refine ⟨_, rfl, x6, ?_⟩
      have sx6 := x6.size
      refine RW.maxmin ⟨rfl, rfl, rfl, rfl⟩ rfl rfl rfl rfl ?_
      refine RW.pure tabOk 2 rfl ?_
      refine RW.done ?_
      refine NW.next ?_
      refine CW.seq ?_
      refine CW.lex [.W, .W, .W] rfl ?_
      refine RW.pure tabOk 3 rfl ?_
      refine RW.done ?_
      refine NW.next ?_
      by_cases c7 : (imax p1 ((rd p0.List_ it35_2).From)) < (imin (w64 (p1 + p2)) y2)
      ·
       rw [if_pos c7] at H
       refine CW.cond_t rfl (decide_eq_true c7) ?_
       refine CW.lex [.W, .W, .W, .W, .W, .W, .L, .W, .L, .W, .W, .W, .L, .W, .W, .X, .M, .W] rfl ?_
       refine RW.pure tabOk 6 rfl ?_
       have h20 := h18.ext x6
       refine RW.load tabOk [.int .i64 ((rd p0.List_ it35_2).Dev)] ((h20.at 2).take 1 rfl) ⟨rfl, rfl, rfl, rfl⟩ rfl rfl rfl rfl ?_
       refine RW.pure tabOk 1 rfl ?_
       refine RW.load tabOk [.int .i64 ((rd p0.List_ it35_2).To)] ((h20.at 3).take 1 rfl) ⟨rfl, rfl, rfl, rfl⟩ rfl rfl rfl rfl ?_
       refine RW.pure tabOk 3 rfl ?_
       refine RW.load tabOk [.int .i64 ((rd p0.List_ it35_2).From)] ((h20.at 0).take 1 rfl) ⟨rfl, rfl, rfl, rfl⟩ rfl rfl rfl rfl ?_
       refine RW.pure tabOk 2 rfl ?_
       refine RW.buildSlice (cs := [.int .i64 (imax p1 ((rd p0.List_ it35_2).From)), .int .i64 (w64 ((imin (w64 (p1 + p2)) y2) - (imax p1 ((rd p0.List_ it35_2).From)))), .int .i64 ((rd p0.List_ it35_2).Dev), .int .i64 (w64 ((w64 (((rd p0.List_ it35_2).To) + (imax p1 ((rd p0.List_ it35_2).From)))) - ((rd p0.List_ it35_2).From))), .int .i64 0]) tabOk (.inl rfl) ⟨rfl, rfl, rfl, rfl⟩ rfl rfl rfl rfl rfl rfl rfl ?_
       intro b3 w11 x7 l3 h21
       have sx7 := x7.size
       have ltb3 := h21.lt
       have h22 := ((((h14.ext x3).turnB x4 h15 ⟨.inr (by omega), trivial⟩ trivial).ext x5).ext x6).ext x7
       obtain ⟨g2, H⟩ := guard_some H
       refine RW.append1L (d := kEntry) (v := (⟨imax p1 ((rd p0.List_ it35_2).From), w64 ((imin (w64 (p1 + p2)) y2) - (imax p1 ((rd p0.List_ it35_2).From))), (rd p0.List_ it35_2).Dev, w64 ((w64 (((rd p0.List_ it35_2).To) + (imax p1 ((rd p0.List_ it35_2).From)))) - ((rd p0.List_ it35_2).From)), 0⟩ : Entry)) (l := [(w4.heap.size, some w5.heap.size, some 45)]) (li := []) (ly := []) (xs := lt8_2) tabOk h22 h21 (kEntry_mk (⟨imax p1 ((rd p0.List_ it35_2).From), w64 ((imin (w64 (p1 + p2)) y2) - (imax p1 ((rd p0.List_ it35_2).From))), (rd p0.List_ it35_2).Dev, w64 ((w64 (((rd p0.List_ it35_2).To) + (imax p1 ((rd p0.List_ it35_2).From)))) - ((rd p0.List_ it35_2).From)), 0⟩ : Entry)) trivial (by simp only [maxLen]; omega) g2 ⟨rfl, rfl, rfl, rfl⟩ rfl rfl rfl rfl rfl rfl rfl ?_
       intro A2 c_2 w12 x8 h23
       have sx8 := x8.size
       have h24 := h23.close.sub (l' := [(w4.heap.size, some w12.heap.size, some 45)]) (li' := []) ⟨(.inl ⟨by omega, by omega, rfl⟩), ⟨(.inl ⟨by omega, by omega, rfl⟩), trivial⟩⟩ trivial
       refine RW.pure tabOk 1 rfl ?_
       refine RW.done ?_
       refine NW.norm_block ?_
       have h25 := (((((gF1_2.ext x3).turnB x4 h15 ⟨.inr (by omega), trivial⟩).ext x5).ext x6).ext x7).turnL x8 ⟨⟨.inr (.inl (by omega)), trivial⟩, trivial⟩
       have h26 := Ext.turn (Ext.trans (Ext.trans (Ext.trans (Ext.turnB (Ext.trans x0_2 x3) x4 (by omega)) x5) x6) x7) x8 ⟨by omega, trivial⟩
       exact NW.J fun a ha => ⟨(lt8_2 ++ [(⟨imax p1 ((rd p0.List_ it35_2).From), w64 ((imin (w64 (p1 + p2)) y2) - (imax p1 ((rd p0.List_ it35_2).From))), (rd p0.List_ it35_2).Dev, w64 ((w64 (((rd p0.List_ it35_2).To) + (imax p1 ((rd p0.List_ it35_2).From)))) - ((rd p0.List_ it35_2).From)), 0⟩ : Entry)]), A2, c_2, ha.sub ⟨rfl, rfl, rfl, rfl, rfl, rfl, trivial⟩, by omega, (h24.sub ⟨(.inl ⟨by omega, trivial, rfl⟩), trivial⟩ trivial), h25, h26, H⟩
      ·
       rw [if_neg c7] at H
       refine CW.cond_f rfl (decide_eq_false c7) ?_
       refine CW.skip ?_
       refine NW.norm_block ?_
       have h27 := (((h14.ext x3).turnB x4 h15 ⟨.inr (by omega), trivial⟩ trivial).ext x5).ext x6
       have h28 := (((gF1_2.ext x3).turnB x4 h15 ⟨.inr (by omega), trivial⟩).ext x5).ext x6
       have h29 := Ext.trans (Ext.trans (Ext.turnB (Ext.trans x0_2 x3) x4 (by omega)) x5) x6
       exact NW.J fun a ha => ⟨lt8_2, At8_2, ct8_2, ha.sub ⟨rfl, rfl, rfl, rfl, rfl, rfl, trivial⟩, by omega, (h27.sub ⟨(.inl ⟨by omega, trivial, rfl⟩), trivial⟩ trivial), h28, h29, H⟩
     intro a w6 hJ hp
     obtain ⟨lt8_3, At8_3, ct8_3, hS, hle, ft8_3, gF1_3, x0_3, H⟩ := hJ
     unfold table_Range.j2 at H
     refine CW.go hp hS ?_
     have h30 : Ow kEntry 45 w6.heap (okL [(w4.heap.size, some w6.heap.size, some 45)]) (okL []) At8_3 ct8_3 lt8_3 := ft8_3.close
     refine CW.lex [.W, .W] rfl ?_
     refine RW.pure tabOk 2 rfl ?_
     refine RW.done ?_
     exact NW.J fun a ha => ⟨n1, Nat.lt_succ_self n1, lt8_3, At8_3, ct8_3, (w64 (it35_2 + 1)), ha.sub ⟨rfl, rfl, rfl, rfl, rfl, rfl, trivial⟩, by omega, (h30.sub ⟨(.inl ⟨by omega, trivial, rfl⟩), trivial⟩ trivial), gF1_3, x0_3, H⟩
    ·
     rw [if_neg c6] at H
     refine CW.cond_f rfl (decide_eq_false c6) ?_
     refine CW.exit ?_
     refine NW.exit_then (NW.exit_then (NW.exit_hit ?_))
     refine NW.next ?_
     refine CW.seq ?_
     refine CW.lex [.W, .W, .W] rfl ?_
     refine RW.pure tabOk 3 rfl ?_
     refine RW.done ?_
     refine NW.next ?_
     refine CW.ret ?_
     obtain rfl := Option.some.inj H
     exact NW.ret2 rfl (by rfl) (by rfl) ⟨At8_2, ct8_2, rfl, x0_2, (h14.sub (l' := [(w.heap.size, none, some 45)]) (li' := []) ⟨(.inl ⟨by omega, trivial, rfl⟩), trivial⟩ trivial)⟩

set_option maxHeartbeats 4000000 in
set_option maxRecDepth 100000 in
theorem table_At.calls (k : Nat) (p0 : Table) (A1 : Option Addr) (c_1 : Nat) (p1 : Int) (r : Int) (w : World) (hs1 : Sl kEntry w.heap okAll A1 p0.List_) (hl1 : p0.List_.length ≤ c_1) (H : table_At.f k p0 p1 = some r) :
    Calls Try.prog 84 #[.agg #[.int .i64 p0.Dev, .int .i64 p0.Size, .slice A1 p0.List_.length c_1], .int .i64 p1] w fun e w' => e = .returned (.int .i64 r) ∧ Ext w w' := by
 have h1 : Sl kEntry w.heap (okL [(0, some w.heap.size, none)]) A1 p0.List_ := hs1.old _ rfl
 have x0 : Ext w w := Upd.refl _ w
 unfold table_At.f at H
 refine calls_start Try.func84 rfl 9 rfl [.agg #[.int .i64 p0.Dev, .int .i64 p0.Size, .slice A1 p0.List_.length c_1], .int .i64 p1] rfl ?_
 refine CW.seq ?_
 refine CW.lex [.X, .X, .W] rfl ?_
 refine RW.box (cs := [.int .i64 p0.Dev, .int .i64 p0.Size, .slice A1 p0.List_.length c_1]) (.inl rfl) ⟨rfl, rfl, rfl, rfl⟩ rfl rfl rfl ?_
 intro b1 w1 x1 l1 h2
 have sx1 := x1.size
 have ltb1 := h2.lt
 refine RW.box (cs := [.int .i64 p1]) (.inl rfl) ⟨rfl, rfl, rfl, rfl⟩ rfl rfl rfl ?_
 intro b2 w2 x2 l2 h3
 have sx2 := x2.size
 have ltb2 := h3.lt
 refine RW.pure tabOk 1 rfl ?_
 refine RW.done ?_
 refine NW.next ?_
 refine CW.seq ?_
 refine CW.lex [.W, .L, .W, .X, .W] rfl ?_
 refine RW.pure tabOk 1 rfl ?_
 have h4 := h2.ext x2
 refine RW.load tabOk [.slice A1 p0.List_.length c_1] (h4.at 2) ⟨rfl, rfl, rfl, rfl⟩ rfl rfl rfl rfl ?_
 refine RW.pure tabOk 1 rfl ?_
 have xc1 : Ext w2 w2 := Upd.refl _ _
 refine RW.callV (R := fun e w3 => ∃ (it8_0 : Int), e = .returned (.int .i64 it8_0) ∧ w2.heap.size ≤ w3.heap.size ∧ Ext w w3 ∧ Ext w2 w3 ∧ table_At.j0 it8_0 = some r) (.inl rfl) ent85 ⟨rfl, rfl, rfl, rfl⟩ rfl rfl rfl ?_ ?_
 ·
  refine calls_start Try.func85 rfl 19 rfl [.slice A1 p0.List_.length c_1, .func (.func 104) #[] #[.pointer (some ⟨b2, 0, none⟩)]] rfl ?_
  refine CW.seq ?_
  refine CW.lex [.W] rfl ?_
  refine RW.pure tabOk 1 rfl ?_
  refine RW.done ?_
  refine NW.next ?_
  refine CW.seq ?_
  refine CW.seq ?_
  refine CW.lex [.W, .W, .W] rfl ?_
  refine RW.pure tabOk 3 rfl ?_
  refine RW.done ?_
  refine NW.next ?_
  refine CW.block ?_
  refine CW.loop (fun n1 a w4 => ∃ (it8_1 : Int), Sat 19 [(0, .slice A1 p0.List_.length c_1), (1, .func (.func 104) #[] #[.pointer (some ⟨b2, 0, none⟩)]), (7, .int .i64 (p0.List_.length : Int)), (8, .int .i64 it8_1)] a ∧ w2.heap.size ≤ w4.heap.size ∧ Sl kEntry w4.heap (okL [(0, some w.heap.size, none)]) A1 p0.List_ ∧ Ext w w4 ∧ Ext w2 w4 ∧ Box w4.heap b2 3 [.int .i64 p1] ∧ table_At.l0 p0 p1 n1 it8_1 = some r) k ?_ ?_
  have h5 := (h1.ext x1).ext x2
  have h6 := Ext.trans (Ext.trans x0 x1) x2
  · exact fun a ha => ⟨0, ha.sub ⟨rfl, rfl, rfl, rfl, trivial⟩, by omega, h5, h6, xc1, h3, H⟩
  intro n1 a w4 hI hp
  obtain ⟨it8_1, hS, hle, gF1_1, x0_1, x_xc1_1, gb2_1, H⟩ := hI
  cases n1 with
  | zero => cases H
  | succ n1 =>
   rw [table_At.l0] at H
   refine CW.go hp hS ?_
   refine CW.seq ?_
   refine CW.lex [.W] rfl ?_
   refine RW.pure tabOk 1 rfl ?_
   refine RW.done ?_
   refine NW.next ?_
   refine CW.seq ?_
   by_cases c1 : it8_1 < (p0.List_.length : Int)
   ·
    rw [if_pos c1] at H
    refine CW.cond_t rfl (decide_eq_true c1) ?_
    refine CW.skip ?_
    refine NW.next ?_
    refine CW.seq ?_
    refine CW.block ?_
    refine CW.seq ?_
    refine CW.lex [.W, .W] rfl ?_
    refine RW.pure tabOk 2 rfl ?_
    refine RW.done ?_
    refine NW.next ?_
    refine CW.seq ?_
    refine CW.lex [.W, .W, .W, .W, .L, .M] rfl ?_
    refine RW.pure tabOk 3 rfl ?_
    obtain ⟨g1, H⟩ := guard_some H
    obtain ⟨ad1, e1, a1⟩ := kEntry_at gF1_1 g1.1 g1.2
    refine RW.index tabOk g1.1 g1.2 e1 ⟨rfl, rfl, rfl, rfl⟩ rfl rfl rfl rfl rfl rfl ?_
    refine RW.load tabOk [.int .i64 ((rd p0.List_ it8_1).From), .int .i64 ((rd p0.List_ it8_1).Len), .int .i64 ((rd p0.List_ it8_1).Dev), .int .i64 ((rd p0.List_ it8_1).To), .int .i64 ((rd p0.List_ it8_1).Stale)] a1 ⟨rfl, rfl, rfl, rfl⟩ rfl rfl rfl rfl ?_
    refine RW.callFM (R := fun e w5 => ∃ (bt16_2 : Bool), e = .returned (.bool bt16_2) ∧ w4.heap.size ≤ w5.heap.size ∧ Sl kEntry w5.heap (okL [(0, some w.heap.size, none)]) A1 p0.List_ ∧ Ext w w5 ∧ Ext w2 w5 ∧ Box w5.heap b2 3 [.int .i64 p1] ∧ table_At.j1 it8_1 (table_At.l0 p0 p1 n1) bt16_2 = some r) ent104 ⟨rfl, rfl, rfl, rfl⟩ rfl rfl rfl ?_ ?_
    ·
     refine calls_start Try.func104 rfl 14 rfl [.agg #[.int .i64 ((rd p0.List_ it8_1).From), .int .i64 ((rd p0.List_ it8_1).Len), .int .i64 ((rd p0.List_ it8_1).Dev), .int .i64 ((rd p0.List_ it8_1).To), .int .i64 ((rd p0.List_ it8_1).Stale)], .pointer (some ⟨b2, 0, none⟩)] rfl ?_
     refine CW.seq ?_
     refine CW.lex [.X, .W] rfl ?_
     refine RW.box (cs := [.int .i64 ((rd p0.List_ it8_1).From), .int .i64 ((rd p0.List_ it8_1).Len), .int .i64 ((rd p0.List_ it8_1).Dev), .int .i64 ((rd p0.List_ it8_1).To), .int .i64 ((rd p0.List_ it8_1).Stale)]) (.inl rfl) ⟨rfl, rfl, rfl, rfl⟩ rfl rfl rfl ?_
     intro b3 w6 x3 l3 h7
     have sx3 := x3.size
     have ltb3 := h7.lt
     refine RW.pure tabOk 1 rfl ?_
     refine RW.done ?_
     refine NW.next ?_
     refine CW.seq ?_
     refine CW.ord [0, 0, 2, 7, 15, 31, 31, 95, 255, 511, 1023] (ofL [(1, .W), (0, .L), (2, .L), (3, .W), (4, .W), (5, .L), (6, .L), (7, .X), (8, .W), (9, .W), (10, .W)] .nil) mixed (by kernel_rfl) ?_
     intro w7 x4
     have sx4 := x4.size
     refine RW.pure tabOk 1 rfl ?_
     have h8 := (gb2_1.ext x3).ext x4
     refine RW.load tabOk [.int .i64 p1] (h8.at 0) ⟨rfl, rfl, rfl, rfl⟩ rfl rfl rfl rfl ?_
     have h9 := h7.ext x4
     refine RW.load tabOk [.int .i64 ((rd p0.List_ it8_1).From)] ((h9.at 0).take 1 rfl) ⟨rfl, rfl, rfl, rfl⟩ rfl rfl rfl rfl ?_
     refine RW.pure tabOk 2 rfl ?_
     by_cases c2 : ((rd p0.List_ it8_1).From) ≤ p1
     ·
      rw [if_pos c2] at H
      refine RW.bool 8 (b' := true) (decide_eq_true c2) rfl ?_
      refine RW.load tabOk [.int .i64 p1] (h8.at 0) ⟨rfl, rfl, rfl, rfl⟩ rfl rfl rfl rfl ?_
      refine RW.load tabOk [.int .i64 ((rd p0.List_ it8_1).From), .int .i64 ((rd p0.List_ it8_1).Len), .int .i64 ((rd p0.List_ it8_1).Dev), .int .i64 ((rd p0.List_ it8_1).To), .int .i64 ((rd p0.List_ it8_1).Stale)] (h9.at 0) ⟨rfl, rfl, rfl, rfl⟩ rfl rfl rfl rfl ?_
      obtain ⟨y1, h10, H⟩ := bind_some H
      refine RW.callF (.inl rfl) ent40 ⟨rfl, rfl, rfl, rfl⟩ rfl rfl (table_end.calls (rd p0.List_ it8_1) _ _ h10) ?_
      rintro _ w8 ⟨rfl, x5⟩
      refine ⟨_, rfl, x5, ?_⟩
      have sx5 := x5.size
      refine RW.pure tabOk 3 rfl ?_
      refine RW.done ?_
      refine NW.next ?_
      refine CW.ret ?_
      have h11 := ((gF1_1.ext x3).ext x4).ext x5
      have h12 := Ext.trans (Ext.trans (Ext.trans x0_1 x3) x4) x5
      have h13 := Ext.trans (Ext.trans (Ext.trans x_xc1_1 x3) x4) x5
      have h14 := h8.ext x5
      exact NW.ret1 rfl (by rfl) ⟨(decide (p1 < y1)), rfl, by omega, h11, h12, h13, h14, H⟩
     ·
      rw [if_neg c2] at H
      refine RW.bool 8 (b' := false) (decide_eq_false c2) rfl ?_
      refine RW.pure tabOk 6 rfl ?_
      refine RW.done ?_
      refine NW.next ?_
      refine CW.ret ?_
      have h15 := (gF1_1.ext x3).ext x4
      have h16 := Ext.trans (Ext.trans x0_1 x3) x4
      have h17 := Ext.trans (Ext.trans x_xc1_1 x3) x4
      exact NW.ret1 rfl (by rfl) ⟨false, rfl, by omega, h15, h16, h17, h8, H⟩
    rintro _ w5 ⟨bt16_2, rfl, hle, gF1_2, x0_2, x_xc1_2, gb2_2, H⟩
    refine ⟨_, rfl, ?_⟩
    unfold table_At.j1 at H
    refine RW.done ?_
    refine NW.next ?_
    by_cases c3 : bt16_2 = true
    ·
     rw [if_pos c3] at H
     refine CW.cond_t rfl (c3) ?_
     refine CW.seq ?_
     refine CW.lex [.W, .W] rfl ?_
     refine RW.pure tabOk 2 rfl ?_
     refine RW.done ?_
     refine NW.next ?_
     refine CW.ret ?_
     refine NW.ret_block (NW.ret_then (NW.ret_then (NW.ret_block (NW.ret_then ?_))))
     exact NW.ret1 rfl (by rfl) ⟨it8_1, rfl, by omega, x0_2, x_xc1_2, H⟩
    ·
     rw [if_neg c3] at H
     refine CW.cond_f rfl (bool_f c3) ?_
     refine CW.skip ?_
     refine NW.norm_block (NW.next ?_)
     refine CW.lex [.W, .W] rfl ?_
     refine RW.pure tabOk 2 rfl ?_
     refine RW.done ?_
     exact NW.J fun a ha => ⟨n1, Nat.lt_succ_self n1, (w64 (it8_1 + 1)), ha.sub ⟨rfl, rfl, rfl, rfl, trivial⟩, by omega, gF1_2, x0_2, x_xc1_2, gb2_2, H⟩
   ·
    rw [if_neg c1] at H
    refine CW.cond_f rfl (decide_eq_false c1) ?_
    refine CW.exit ?_
    refine NW.exit_then (NW.exit_then (NW.exit_hit ?_))
    refine NW.next ?_
    refine CW.seq ?_
    refine CW.lex [.W] rfl ?_
    refine RW.pure tabOk 1 rfl ?_
    refine RW.done ?_
    refine NW.next ?_
    refine CW.ret ?_
    exact NW.ret1 rfl (by rfl) ⟨(-1), rfl, by omega, x0_1, x_xc1_1, H⟩
 rintro _ w3 ⟨it8_0, rfl, hle, x0_0, x_xc1_0, H⟩
 refine ⟨_, rfl, x_xc1_0, ?_⟩
 unfold table_At.j0 at H
 refine RW.pure tabOk 1 rfl ?_
 refine RW.done ?_
 refine NW.next ?_
 refine CW.ret ?_
 obtain rfl := Option.some.inj H
 exact NW.ret1 rfl (by rfl) ⟨rfl, x0_0⟩

set_option maxHeartbeats 4000000 in
set_option maxRecDepth 100000 in
theorem table_Find.calls (k : Nat) (p0 : Table) (A1 : Option Addr) (c_1 : Nat) (p1 : Int) (r : Ptr × Bool) (w : World) (hs1 : Sl kEntry w.heap okAll A1 p0.List_) (hl1 : p0.List_.length ≤ c_1) (H : table_Find.f k p0 p1 = some r) :
    Calls Try.prog 45 #[.agg #[.int .i64 p0.Dev, .int .i64 p0.Size, .slice A1 p0.List_.length c_1], .int .i64 p1] w fun e w' => e = .returned (.tuple #[.agg #[.int .i64 r.1.Dev, .int .i64 r.1.At], .bool r.2]) ∧ Ext w w' := by
 have h1 : Sl kEntry w.heap (okL [(0, some w.heap.size, none)]) A1 p0.List_ := hs1.old _ rfl
 have x0 : Ext w w := Upd.refl _ w
 unfold table_Find.f at H
 refine calls_start Try.func45 rfl 29 rfl [.agg #[.int .i64 p0.Dev, .int .i64 p0.Size, .slice A1 p0.List_.length c_1], .int .i64 p1] rfl ?_
 refine CW.seq ?_
 refine CW.lex [.X, .X, .W] rfl ?_
 refine RW.box (cs := [.int .i64 p0.Dev, .int .i64 p0.Size, .slice A1 p0.List_.length c_1]) (.inl rfl) ⟨rfl, rfl, rfl, rfl⟩ rfl rfl rfl ?_
 intro b1 w1 x1 l1 h2
 have sx1 := x1.size
 have ltb1 := h2.lt
 refine RW.alloc tabOk (.inl rfl) ⟨rfl, rfl, rfl, rfl⟩ rfl rfl ?_
 intro b2 w2 x2 l2 h3
 have sx2 := x2.size
 have ltb2 := h3.lt
 refine RW.pure tabOk 1 rfl ?_
 refine RW.done ?_
 refine NW.next ?_
 refine CW.seq ?_
 refine CW.lex [.L, .W, .X, .W] rfl ?_
 have h4 := h2.ext x2
 refine RW.load tabOk [.int .i64 p0.Dev, .int .i64 p0.Size, .slice A1 p0.List_.length c_1] (h4.at 0) ⟨rfl, rfl, rfl, rfl⟩ rfl rfl rfl rfl ?_
 refine RW.pure tabOk 1 rfl ?_
 have h5 := (h1.ext x1).ext x2
 obtain ⟨y1, h6, H⟩ := bind_some H
 refine RW.callF (.inl rfl) ent84 ⟨rfl, rfl, rfl, rfl⟩ rfl rfl (table_At.calls k p0 A1 c_1 p1 _ _ h5.all hl1 h6) ?_
 rintro _ w3 ⟨rfl, x3⟩
 refine ⟨_, rfl, x3, ?_⟩
 have sx3 := x3.size
 refine RW.pure tabOk 1 rfl ?_
 refine RW.done ?_
 refine NW.next ?_
 refine CW.seq ?_
 refine CW.seq ?_
 refine CW.lex [.W, .W] rfl ?_
 refine RW.pure tabOk 2 rfl ?_
 refine RW.done ?_
 refine NW.next ?_
 by_cases c1 : y1 < 0
 ·
  rw [if_pos c1] at H
  refine CW.cond_t rfl (decide_eq_true c1) ?_
  refine CW.seq ?_
  refine CW.lex [.W, .M, .W] rfl ?_
  refine RW.pure tabOk 1 rfl ?_
  have h7 := h3.ext x3
  refine RW.storeBox tabOk h7 [.int .i64 0, .int .i64 0] ⟨rfl, rfl, rfl⟩ rfl rfl rfl rfl rfl rfl rfl rfl ?_
  intro w4 x4 h8
  have h9 : Box w4.heap b2 33 [.int .i64 0, .int .i64 0] := h8
  have sx4 := x4.size
  refine RW.pure tabOk 1 rfl ?_
  refine RW.done ?_
  refine NW.next ?_
  refine CW.ret ?_
  refine NW.ret_then ?_
  obtain rfl := Option.some.inj H
  have h10 := Ext.turnB (Ext.trans (Ext.trans (Ext.trans x0 x1) x2) x3) x4 (by omega)
  exact NW.ret2 rfl (resOne_cell tabOk (h9.at 0) rfl rfl rfl) (by rfl) ⟨rfl, h10⟩
 ·
  rw [if_neg c1] at H
  refine CW.cond_f rfl (decide_eq_false c1) ?_
  refine CW.skip ?_
  refine NW.next ?_
  refine CW.seq ?_
  refine CW.lex [.W, .L, .W, .W, .L, .X, .M] rfl ?_
  refine RW.pure tabOk 1 rfl ?_
  have h11 := h4.ext x3
  refine RW.load tabOk [.slice A1 p0.List_.length c_1] (h11.at 2) ⟨rfl, rfl, rfl, rfl⟩ rfl rfl rfl rfl ?_
  refine RW.pure tabOk 1 rfl ?_
  obtain ⟨g1, H⟩ := guard_some H
  have h12 := h5.ext x3
  obtain ⟨ad1, e1, a1⟩ := kEntry_at h12 g1.1 g1.2
  refine RW.index tabOk g1.1 g1.2 e1 ⟨rfl, rfl, rfl, rfl⟩ rfl rfl rfl rfl rfl rfl ?_
  refine RW.load tabOk [.int .i64 ((rd p0.List_ y1).From), .int .i64 ((rd p0.List_ y1).Len), .int .i64 ((rd p0.List_ y1).Dev), .int .i64 ((rd p0.List_ y1).To), .int .i64 ((rd p0.List_ y1).Stale)] a1 ⟨rfl, rfl, rfl, rfl⟩ rfl rfl rfl rfl ?_
  refine RW.alloc tabOk (.inl rfl) ⟨rfl, rfl, rfl, rfl⟩ rfl rfl ?_
  intro b3 w5 x5 l3 h13
  have sx5 := x5.size
  have ltb3 := h13.lt
  refine RW.storeBox tabOk h13 [.int .i64 ((rd p0.List_ y1).From), .int .i64 ((rd p0.List_ y1).Len), .int .i64 ((rd p0.List_ y1).Dev), .int .i64 ((rd p0.List_ y1).To), .int .i64 ((rd p0.List_ y1).Stale)] ⟨rfl, rfl, rfl⟩ rfl rfl rfl rfl rfl rfl rfl rfl ?_
  intro w6 x6 h14
  have h15 : Box w6.heap b3 45 [.int .i64 ((rd p0.List_ y1).From), .int .i64 ((rd p0.List_ y1).Len), .int .i64 ((rd p0.List_ y1).Dev), .int .i64 ((rd p0.List_ y1).To), .int .i64 ((rd p0.List_ y1).Stale)] := h14
  have sx6 := x6.size
  refine RW.done ?_
  refine NW.next ?_
  refine CW.seq ?_
  refine CW.lex [.W, .L, .W, .L, .W, .W, .W, .L, .W, .W, .M, .W] rfl ?_
  refine RW.pure tabOk 1 rfl ?_
  refine RW.load tabOk [.int .i64 ((rd p0.List_ y1).Dev)] ((h15.at 2).take 1 rfl) ⟨rfl, rfl, rfl, rfl⟩ rfl rfl rfl rfl ?_
  refine RW.pure tabOk 1 rfl ?_
  refine RW.load tabOk [.int .i64 ((rd p0.List_ y1).To)] ((h15.at 3).take 1 rfl) ⟨rfl, rfl, rfl, rfl⟩ rfl rfl rfl rfl ?_
  refine RW.pure tabOk 3 rfl ?_
  refine RW.load tabOk [.int .i64 ((rd p0.List_ y1).From)] ((h15.at 0).take 1 rfl) ⟨rfl, rfl, rfl, rfl⟩ rfl rfl rfl rfl ?_
  refine RW.pure tabOk 2 rfl ?_
  have h16 := ((h3.ext x3).ext x5).turnB x6 (by omega)
  refine RW.storeBox tabOk h16 [.int .i64 ((rd p0.List_ y1).Dev), .int .i64 (w64 ((w64 (((rd p0.List_ y1).To) + p1)) - ((rd p0.List_ y1).From)))] ⟨rfl, rfl, rfl⟩ rfl rfl rfl rfl rfl rfl rfl rfl ?_
  intro w7 x7 h17
  have h18 : Box w7.heap b2 33 [.int .i64 ((rd p0.List_ y1).Dev), .int .i64 (w64 ((w64 (((rd p0.List_ y1).To) + p1)) - ((rd p0.List_ y1).From)))] := h17
  have sx7 := x7.size
  refine RW.pure tabOk 1 rfl ?_
  refine RW.done ?_
  refine NW.next ?_
  refine CW.ret ?_
  obtain rfl := Option.some.inj H
  have h19 := Ext.turnB (Ext.turnB (Ext.trans (Ext.trans (Ext.trans (Ext.trans x0 x1) x2) x3) x5) x6 (by omega)) x7 (by omega)
  exact NW.ret2 rfl (resOne_cell tabOk (h18.at 0) rfl rfl rfl) (by rfl) ⟨rfl, h19⟩

set_option maxHeartbeats 4000000 in
set_option maxRecDepth 100000 in
theorem table_Look.calls (k : Nat) (p0 : Table) (A1 : Option Addr) (c_1 : Nat) (p1 : Int) (r : Ptr × Int) (w : World) (hs1 : Sl kEntry w.heap okAll A1 p0.List_) (hl1 : p0.List_.length ≤ c_1) (H : table_Look.f k p0 p1 = some r) :
    Calls Try.prog 15 #[.agg #[.int .i64 p0.Dev, .int .i64 p0.Size, .slice A1 p0.List_.length c_1], .int .i64 p1] w fun e w' => e = .returned (.tuple #[.agg #[.int .i64 r.1.Dev, .int .i64 r.1.At], .int .i64 r.2]) ∧ Ext w w' := by
 have h1 : Sl kEntry w.heap (okL [(0, some w.heap.size, none)]) A1 p0.List_ := hs1.old _ rfl
 have x0 : Ext w w := Upd.refl _ w
 unfold table_Look.f at H
 refine calls_start Try.func15 rfl 22 rfl [.agg #[.int .i64 p0.Dev, .int .i64 p0.Size, .slice A1 p0.List_.length c_1], .int .i64 p1] rfl ?_
 refine CW.seq ?_
 refine CW.lex [.X, .X, .W] rfl ?_
 refine RW.box (cs := [.int .i64 p0.Dev, .int .i64 p0.Size, .slice A1 p0.List_.length c_1]) (.inl rfl) ⟨rfl, rfl, rfl, rfl⟩ rfl rfl rfl ?_
 intro b1 w1 x1 l1 h2
 have sx1 := x1.size
 have ltb1 := h2.lt
 refine RW.alloc tabOk (.inl rfl) ⟨rfl, rfl, rfl, rfl⟩ rfl rfl ?_
 intro b2 w2 x2 l2 h3
 have sx2 := x2.size
 have ltb2 := h3.lt
 refine RW.pure tabOk 1 rfl ?_
 refine RW.done ?_
 refine NW.next ?_
 refine CW.seq ?_
 refine CW.seq ?_
 refine CW.lex [.L, .X, .W] rfl ?_
 have h4 := h2.ext x2
 refine RW.load tabOk [.int .i64 p0.Dev, .int .i64 p0.Size, .slice A1 p0.List_.length c_1] (h4.at 0) ⟨rfl, rfl, rfl, rfl⟩ rfl rfl rfl rfl ?_
 have h5 := (h1.ext x1).ext x2
 obtain ⟨y1, h6, H⟩ := bind_some H
 refine RW.callF (.inl rfl) ent41 ⟨rfl, rfl, rfl, rfl⟩ rfl rfl (table_May.calls k p0 A1 c_1 _ _ h5.all hl1 h6) ?_
 rintro _ w3 ⟨rfl, x3⟩
 refine ⟨_, rfl, x3, ?_⟩
 have sx3 := x3.size
 refine RW.pure tabOk 1 rfl ?_
 refine RW.done ?_
 refine NW.next ?_
 by_cases c1 : y1 = true
 ·
  rw [if_pos c1] at H
  refine CW.cond_f rfl (not_f (c1)) ?_
  refine CW.skip ?_
  refine NW.next ?_
  refine CW.seq ?_
  refine CW.lex [.L, .W, .X, .W, .W, .W, .X, .M, .W] rfl ?_
  have h7 := h4.ext x3
  refine RW.load tabOk [.int .i64 p0.Dev, .int .i64 p0.Size, .slice A1 p0.List_.length c_1] (h7.at 0) ⟨rfl, rfl, rfl, rfl⟩ rfl rfl rfl rfl ?_
  refine RW.pure tabOk 1 rfl ?_
  have h8 := h5.ext x3
  obtain ⟨y2, h9, H⟩ := bind_some H
  refine RW.callF (.inl rfl) ent45 ⟨rfl, rfl, rfl, rfl⟩ rfl rfl (table_Find.calls k p0 A1 c_1 p1 _ _ h8.all hl1 h9) ?_
  rintro _ w4 ⟨rfl, x4⟩
  refine ⟨_, rfl, x4, ?_⟩
  have sx4 := x4.size
  refine RW.pure tabOk 3 rfl ?_
  refine RW.alloc tabOk (.inl rfl) ⟨rfl, rfl, rfl, rfl⟩ rfl rfl ?_
  intro b3 w5 x5 l3 h10
  have sx5 := x5.size
  have ltb3 := h10.lt
  refine RW.storeBox tabOk h10 [.int .i64 y2.1.Dev, .int .i64 y2.1.At] ⟨rfl, rfl, rfl⟩ rfl rfl rfl rfl rfl rfl rfl rfl ?_
  intro w6 x6 h11
  have h12 : Box w6.heap b3 33 [.int .i64 y2.1.Dev, .int .i64 y2.1.At] := h11
  have sx6 := x6.size
  refine RW.pure tabOk 1 rfl ?_
  refine RW.done ?_
  refine NW.next ?_
  refine CW.seq ?_
  refine CW.seq ?_
  refine CW.lex [.W, .W] rfl ?_
  refine RW.pure tabOk 2 rfl ?_
  refine RW.done ?_
  refine NW.next ?_
  by_cases c2 : y2.2 = true
  ·
   rw [if_pos c2] at H
   refine CW.cond_f rfl (not_f (c2)) ?_
   refine CW.skip ?_
   refine NW.next ?_
   refine CW.seq ?_
   refine CW.lex [.L, .M, .W] rfl ?_
   refine RW.load tabOk [.int .i64 y2.1.Dev, .int .i64 y2.1.At] (h12.at 0) ⟨rfl, rfl, rfl, rfl⟩ rfl rfl rfl rfl ?_
   have h13 := (((h3.ext x3).ext x4).ext x5).turnB x6 (by omega)
   refine RW.storeBox tabOk h13 [.int .i64 y2.1.Dev, .int .i64 y2.1.At] ⟨rfl, rfl, rfl⟩ rfl rfl rfl rfl rfl rfl rfl rfl ?_
   intro w7 x7 h14
   have h15 : Box w7.heap b2 33 [.int .i64 y2.1.Dev, .int .i64 y2.1.At] := h14
   have sx7 := x7.size
   refine RW.pure tabOk 1 rfl ?_
   refine RW.done ?_
   refine NW.next ?_
   refine CW.ret ?_
   obtain rfl := Option.some.inj H
   have h16 := Ext.turnB (Ext.turnB (Ext.trans (Ext.trans (Ext.trans (Ext.trans (Ext.trans x0 x1) x2) x3) x4) x5) x6 (by omega)) x7 (by omega)
   exact NW.ret2 rfl (resOne_cell tabOk (h15.at 0) rfl rfl rfl) (by rfl) ⟨rfl, h16⟩
  ·
   rw [if_neg c2] at H
   refine CW.cond_t rfl (not_t (bool_f c2)) ?_
   refine CW.seq ?_
   refine CW.lex [.W, .M, .W] rfl ?_
   refine RW.pure tabOk 1 rfl ?_
   have h17 := (((h3.ext x3).ext x4).ext x5).turnB x6 (by omega)
   refine RW.storeBox tabOk h17 [.int .i64 0, .int .i64 0] ⟨rfl, rfl, rfl⟩ rfl rfl rfl rfl rfl rfl rfl rfl ?_
   intro w8 x8 h18
   have h19 : Box w8.heap b2 33 [.int .i64 0, .int .i64 0] := h18
   have sx8 := x8.size
   refine RW.pure tabOk 1 rfl ?_
   refine RW.done ?_
   refine NW.next ?_
   refine CW.ret ?_
   refine NW.ret_then ?_
   obtain rfl := Option.some.inj H
   have h20 := Ext.turnB (Ext.turnB (Ext.trans (Ext.trans (Ext.trans (Ext.trans (Ext.trans x0 x1) x2) x3) x4) x5) x6 (by omega)) x8 (by omega)
   exact NW.ret2 rfl (resOne_cell tabOk (h19.at 0) rfl rfl rfl) (by rfl) ⟨rfl, h20⟩
 ·
  rw [if_neg c1] at H
  refine CW.cond_t rfl (not_t (bool_f c1)) ?_
  refine CW.seq ?_
  refine CW.lex [.W, .M, .W] rfl ?_
  refine RW.pure tabOk 1 rfl ?_
  have h21 := h3.ext x3
  refine RW.storeBox tabOk h21 [.int .i64 0, .int .i64 0] ⟨rfl, rfl, rfl⟩ rfl rfl rfl rfl rfl rfl rfl rfl ?_
  intro w9 x9 h22
  have h23 : Box w9.heap b2 33 [.int .i64 0, .int .i64 0] := h22
  have sx9 := x9.size
  refine RW.pure tabOk 1 rfl ?_
  refine RW.done ?_
  refine NW.next ?_
  refine CW.ret ?_
  refine NW.ret_then ?_
  obtain rfl := Option.some.inj H
  have h24 := Ext.turnB (Ext.trans (Ext.trans (Ext.trans x0 x1) x2) x3) x9 (by omega)
  exact NW.ret2 rfl (resOne_cell tabOk (h23.at 0) rfl rfl rfl) (by rfl) ⟨rfl, h24⟩

set_option maxHeartbeats 4000000 in
set_option maxRecDepth 100000 in
theorem table_Lose.calls (k : Nat) (p0 : Table) (A1 : Option Addr) (c_1 : Nat) (p1 : Int) (r : Table × Int) (w : World) (hs1 : Sl kEntry w.heap okAll A1 p0.List_) (hl1 : p0.List_.length ≤ c_1) (H : table_Lose.f k p0 p1 = some r) :
    Calls Try.prog 16 #[.agg #[.int .i64 p0.Dev, .int .i64 p0.Size, .slice A1 p0.List_.length c_1], .int .i64 p1] w fun e w' => ∃ (B1 : Option Addr) (d1 : Nat), e = .returned (.tuple #[.agg #[.int .i64 r.1.Dev, .int .i64 r.1.Size, .slice B1 r.1.List_.length d1], .int .i64 r.2]) ∧ Ext w w' ∧ Ow kEntry 45 w'.heap (okL [(w.heap.size, none, some 45)]) (okL []) B1 d1 r.1.List_ := by
 have h1 : Sl kEntry w.heap (okL [(0, some w.heap.size, none)]) A1 p0.List_ := hs1.old _ rfl
 have x0 : Ext w w := Upd.refl _ w
 unfold table_Lose.f at H
 refine calls_start Try.func16 rfl 20 rfl [.agg #[.int .i64 p0.Dev, .int .i64 p0.Size, .slice A1 p0.List_.length c_1], .int .i64 p1] rfl ?_
 refine CW.seq ?_
 refine CW.lex [.X, .X, .W] rfl ?_
 refine RW.box (cs := [.int .i64 p0.Dev, .int .i64 p0.Size, .slice A1 p0.List_.length c_1]) (.inl rfl) ⟨rfl, rfl, rfl, rfl⟩ rfl rfl rfl ?_
 intro b1 w1 x1 l1 h2
 have sx1 := x1.size
 have ltb1 := h2.lt
 refine RW.alloc tabOk (.inl rfl) ⟨rfl, rfl, rfl, rfl⟩ rfl rfl ?_
 intro b2 w2 x2 l2 h3
 have sx2 := x2.size
 have ltb2 := h3.lt
 refine RW.pure tabOk 1 rfl ?_
 refine RW.done ?_
 refine NW.next ?_
 refine CW.seq ?_
 refine CW.seq ?_
 refine CW.lex [.L, .X, .W] rfl ?_
 have h4 := h2.ext x2
 refine RW.load tabOk [.int .i64 p0.Dev, .int .i64 p0.Size, .slice A1 p0.List_.length c_1] (h4.at 0) ⟨rfl, rfl, rfl, rfl⟩ rfl rfl rfl rfl ?_
 have h5 := (h1.ext x1).ext x2
 obtain ⟨y1, h6, H⟩ := bind_some H
 refine RW.callF (.inl rfl) ent41 ⟨rfl, rfl, rfl, rfl⟩ rfl rfl (table_May.calls k p0 A1 c_1 _ _ h5.all hl1 h6) ?_
 rintro _ w3 ⟨rfl, x3⟩
 refine ⟨_, rfl, x3, ?_⟩
 have sx3 := x3.size
 refine RW.pure tabOk 1 rfl ?_
 refine RW.done ?_
 refine NW.next ?_
 by_cases c1 : y1 = true
 ·
  rw [if_pos c1] at H
  refine CW.cond_f rfl (not_f (c1)) ?_
  refine CW.skip ?_
  refine NW.next ?_
  refine CW.seq ?_
  refine CW.lex [.L, .X, .M] rfl ?_
  have h7 := h4.ext x3
  refine RW.load tabOk [.int .i64 p0.Dev, .int .i64 p0.Size, .slice A1 p0.List_.length c_1] (h7.at 0) ⟨rfl, rfl, rfl, rfl⟩ rfl rfl rfl rfl ?_
  have h8 := h5.ext x3
  obtain ⟨y2, h9, H⟩ := bind_some H
  refine RW.callF (.inl rfl) ent43 ⟨rfl, rfl, rfl, rfl⟩ rfl rfl (table_Own.calls p0 A1 c_1 _ _ h8.all hl1 h9) ?_
  rintro _ w4 ⟨A2, c_2, rfl, x4, h10⟩
  refine ⟨_, rfl, x4, ?_⟩
  have sx4 := x4.size
  have h11 : Ow kEntry 45 w4.heap (okL [(w3.heap.size, some w4.heap.size, some 45)]) (okL []) A2 c_2 y2.List_ := h10.close
  have h12 := h7.ext x4
  refine RW.storeBox tabOk h12 [.int .i64 y2.Dev, .int .i64 y2.Size, .slice A2 y2.List_.length c_2] ⟨rfl, rfl, rfl⟩ rfl rfl rfl rfl rfl rfl rfl rfl ?_
  intro w5 x5 h13
  have h14 : Box w5.heap b1 24 [.int .i64 y2.Dev, .int .i64 y2.Size, .slice A2 y2.List_.length c_2] := h13
  have sx5 := x5.size
  refine RW.done ?_
  refine NW.next ?_
  refine CW.seq ?_
  refine CW.seq ?_
  refine CW.lex [.W, .M, .W] rfl ?_
  refine RW.pure tabOk 1 rfl ?_
  refine RW.callFM (R := fun e w6 => ∃ (it14_0 : Int) (lb1_2_0 : List Entry) (Ab1_2_0 : Option Addr) (cb1_2_0 : Nat), e = .returned (.int .i64 it14_0) ∧ w5.heap.size ≤ w6.heap.size ∧ Ow kEntry 45 w6.heap (okL [(w3.heap.size, some w4.heap.size, some 45)]) (okL []) Ab1_2_0 cb1_2_0 lb1_2_0 ∧ Ext w w6 ∧ Box w6.heap b1 24 [.int .i64 y2.Dev, .int .i64 y2.Size, .slice Ab1_2_0 lb1_2_0.length cb1_2_0] ∧ Box w6.heap b2 24 [.int .i64 0, .int .i64 0, .slice none 0 0] ∧ table_Lose.j0 y2 it14_0 lb1_2_0 = some r) ent46 ⟨rfl, rfl, rfl, rfl⟩ rfl rfl rfl ?_ ?_
  ·
   refine calls_start Try.func46 rfl 43 rfl [.pointer (some ⟨b1, 0, none⟩), .int .i64 p1] rfl ?_
   refine CW.seq ?_
   refine CW.lex [.W] rfl ?_
   refine RW.pure tabOk 1 rfl ?_
   refine RW.done ?_
   refine NW.next ?_
   refine CW.seq ?_
   refine CW.lex [.W, .W, .L, .W, .X, .W] rfl ?_
   refine RW.pure tabOk 2 rfl ?_
   refine RW.load tabOk [.int .i64 y2.Dev, .int .i64 y2.Size, .slice A2 y2.List_.length c_2] (h14.at 0) ⟨rfl, rfl, rfl, rfl⟩ rfl rfl rfl rfl ?_
   refine RW.pure tabOk 1 rfl ?_
   have h15 := h11.turnB x5 h12 ⟨.inl (show (45 : Nat) ≠ 24 by decide), trivial⟩ trivial
   obtain ⟨y3, h16, H⟩ := bind_some H
   refine RW.callF (.inl rfl) ent84 ⟨rfl, rfl, rfl, rfl⟩ rfl rfl (table_At.calls k y2 A2 c_2 p1 _ _ h15.all h15.len h16) ?_
   rintro _ w7 ⟨rfl, x6⟩
   refine ⟨_, rfl, x6, ?_⟩
   have sx6 := x6.size
   refine RW.pure tabOk 1 rfl ?_
   refine RW.done ?_
   refine NW.next ?_
   refine CW.seq ?_
   refine CW.block ?_
   refine CW.seq ?_
   refine CW.lex [.W, .W, .W] rfl ?_
   refine RW.pure tabOk 3 rfl ?_
   refine RW.done ?_
   refine NW.next ?_
   by_cases c2 : y3 < 0
   ·
    rw [if_pos c2] at H
    refine CW.cond_t rfl (decide_eq_true c2) ?_
    refine CW.seq ?_
    refine CW.lex [.W] rfl ?_
    refine RW.pure tabOk 1 rfl ?_
    refine RW.done ?_
    refine NW.next ?_
    refine CW.ret ?_
    refine NW.ret_block (NW.ret_then ?_)
    have h17 := h15.ext x6
    have h18 := Ext.trans (Ext.turnB (Ext.trans (Ext.trans (Ext.trans (Ext.trans x0 x1) x2) x3) x4) x5 (by omega)) x6
    have h19 := h14.ext x6
    have h20 := (((h3.ext x3).ext x4).turnB x5 (by omega)).ext x6
    exact NW.ret1 rfl (by rfl) ⟨3, y2.List_, A2, c_2, rfl, by omega, (h17.sub ⟨(.inl ⟨by omega, by omega, rfl⟩), trivial⟩ trivial), h18, h19, h20, H⟩
   ·
    rw [if_neg c2] at H
    refine CW.cond_f rfl (decide_eq_false c2) ?_
    refine CW.seq ?_
    refine CW.ord [0, 1, 3, 7, 0, 31, 63, 127, 0, 256, 768, 1792, 0, 7936, 16128, 32512, 65535, 131071] (ofL [(0, .W), (1, .W), (2, .W), (4, .W), (8, .W), (9, .W), (10, .W), (12, .W), (3, .L), (5, .W), (6, .W), (7, .L), (11, .L), (13, .W), (14, .W), (15, .L), (16, .W), (17, .W)] .nil) mixed (by kernel_rfl) ?_
    intro w8 x7
    have sx7 := x7.size
    refine RW.pure tabOk 8 rfl ?_
    have h21 := (h14.ext x6).ext x7
    refine RW.load tabOk [.slice A2 y2.List_.length c_2] (h21.at 2) ⟨rfl, rfl, rfl, rfl⟩ rfl rfl rfl rfl ?_
    obtain ⟨g1, H⟩ := guard_some H
    have h22 := (h15.ext x6).ext x7
    obtain ⟨ad1, e1, a1⟩ := kEntry_at h22.slL g1.1 g1.2
    refine RW.index tabOk g1.1 g1.2 e1 ⟨rfl, rfl, rfl, rfl⟩ rfl rfl rfl rfl rfl rfl ?_
    refine RW.pure tabOk 1 rfl ?_
    refine RW.load tabOk [.int .i64 ((rd y2.List_ y3).Stale)] (a1.fld 4) ⟨rfl, rfl, rfl, rfl⟩ rfl rfl rfl rfl ?_
    refine RW.load tabOk [.slice A2 y2.List_.length c_2] (h21.at 2) ⟨rfl, rfl, rfl, rfl⟩ rfl rfl rfl rfl ?_
    obtain ⟨g2, H⟩ := guard_some H
    obtain ⟨ad2, e2, a2⟩ := kEntry_at h22.slL g2.1 g2.2
    refine RW.index tabOk g2.1 g2.2 e2 ⟨rfl, rfl, rfl, rfl⟩ rfl rfl rfl rfl rfl rfl ?_
    refine RW.pure tabOk 1 rfl ?_
    refine RW.load tabOk [.int .i64 ((rd y2.List_ y3).Len)] ((a2.fld 1).take 1 rfl) ⟨rfl, rfl, rfl, rfl⟩ rfl rfl rfl rfl ?_
    refine RW.pure tabOk 2 rfl ?_
    refine RW.done ?_
    refine NW.next ?_
    by_cases c3 : (rd y2.List_ y3).Stale = (rd y2.List_ y3).Len
    ·
     rw [if_pos c3] at H
     refine CW.cond_t rfl (beq_t c3) ?_
     refine CW.seq ?_
     refine CW.lex [.W] rfl ?_
     refine RW.pure tabOk 1 rfl ?_
     refine RW.done ?_
     refine NW.next ?_
     refine CW.ret ?_
     refine NW.ret_block (NW.ret_then ?_)
     have h23 := Ext.trans (Ext.trans (Ext.turnB (Ext.trans (Ext.trans (Ext.trans (Ext.trans x0 x1) x2) x3) x4) x5 (by omega)) x6) x7
     have h24 := ((((h3.ext x3).ext x4).turnB x5 (by omega)).ext x6).ext x7
     exact NW.ret1 rfl (by rfl) ⟨9, y2.List_, A2, c_2, rfl, by omega, (h22.sub ⟨(.inl ⟨by omega, by omega, rfl⟩), trivial⟩ trivial), h23, h21, h24, H⟩
    ·
     rw [if_neg c3] at H
     refine CW.cond_f rfl (beq_f c3) ?_
     refine CW.skip ?_
     refine NW.norm_block (NW.next ?_)
     refine CW.seq ?_
     refine CW.lex [.W, .W, .W, .L, .W, .W, .W, .L, .W, .W, .W, .M] rfl ?_
     refine RW.pure tabOk 3 rfl ?_
     refine RW.load tabOk [.slice A2 y2.List_.length c_2] (h21.at 2) ⟨rfl, rfl, rfl, rfl⟩ rfl rfl rfl rfl ?_
     refine RW.pure tabOk 1 rfl ?_
     obtain ⟨g3, H⟩ := guard_some H
     obtain ⟨ad3, e3, a3⟩ := kEntry_at h22.slL g3.1 g3.2
     refine RW.index tabOk g3.1 g3.2 e3 ⟨rfl, rfl, rfl, rfl⟩ rfl rfl rfl rfl rfl rfl ?_
     refine RW.pure tabOk 1 rfl ?_
     refine RW.load tabOk [.int .i64 ((rd y2.List_ y3).Stale)] (a3.fld 4) ⟨rfl, rfl, rfl, rfl⟩ rfl rfl rfl rfl ?_
     refine RW.pure tabOk 1 rfl ?_
     obtain ⟨g4, H⟩ := guard_some H
     obtain ⟨ad4, e4, a4⟩ := kEntry_at h22.slL g4.1 g4.2
     refine RW.index tabOk g4.1 g4.2 e4 ⟨rfl, rfl, rfl, rfl⟩ rfl rfl rfl rfl rfl rfl ?_
     refine RW.pure tabOk 1 rfl ?_
     refine RW.storeElL (y := (⟨(rd y2.List_ y3).From, (rd y2.List_ y3).Len, (rd y2.List_ y3).Dev, (rd y2.List_ y3).To, w64 (((rd y2.List_ y3).Stale) + 1)⟩ : Entry)) (lv := []) (k := 4) tabOk h22 (j := y3.toNat) (by have := g4; omega) default [.int .i64 (w64 (((rd y2.List_ y3).Stale) + 1))] (fun cs ok' hr => by obtain rfl := kEntry_open hr; exact ⟨by simp, kEntry_mk (⟨(rd y2.List_ y3).From, (rd y2.List_ y3).Len, (rd y2.List_ y3).Dev, (rd y2.List_ y3).To, w64 (((rd y2.List_ y3).Stale) + 1)⟩ : Entry)⟩) trivial ⟨rfl, rfl, rfl⟩ rfl rfl e4 rfl rfl rfl rfl rfl ?_
     intro w9 x8 h25
     have sx8 := x8.size
     have h26 := h25.sub (l' := [(w3.heap.size, some w4.heap.size, some 45)]) (li' := []) ⟨(.inl ⟨by omega, by omega, rfl⟩), trivial⟩ trivial
     have h27 := h21.turnL x8 (.inl (by decide))
     have h28 : Box w9.heap b1 24 [.int .i64 y2.Dev, .int .i64 y2.Size, .slice A2 (y2.List_.set y3.toNat (⟨(rd y2.List_ y3).From, (rd y2.List_ y3).Len, (rd y2.List_ y3).Dev, (rd y2.List_ y3).To, w64 (((rd y2.List_ y3).Stale) + 1)⟩ : Entry)).length c_2] := by simpa only [List.length_set] using h27
     refine RW.done ?_
     refine NW.next ?_
     refine CW.seq ?_
     refine CW.lex [.W] rfl ?_
     refine RW.pure tabOk 1 rfl ?_
     refine RW.done ?_
     refine NW.next ?_
     refine CW.ret ?_
     have h29 := Ext.turn (Ext.trans (Ext.trans (Ext.turnB (Ext.trans (Ext.trans (Ext.trans (Ext.trans x0 x1) x2) x3) x4) x5 (by omega)) x6) x7) x8 ⟨by omega, trivial⟩
     have h30 := (((((h3.ext x3).ext x4).turnB x5 (by omega)).ext x6).ext x7).turnL x8 (.inl (by decide))
     exact NW.ret1 rfl (by rfl) ⟨0, (y2.List_.set y3.toNat (⟨(rd y2.List_ y3).From, (rd y2.List_ y3).Len, (rd y2.List_ y3).Dev, (rd y2.List_ y3).To, w64 (((rd y2.List_ y3).Stale) + 1)⟩ : Entry)), A2, c_2, rfl, by omega, (h26.sub ⟨(.inl ⟨by omega, by omega, rfl⟩), trivial⟩ trivial), h29, h28, h30, H⟩
  rintro _ w6 ⟨it14_0, lb1_2_0, Ab1_2_0, cb1_2_0, rfl, hle, fb1_2_0, x0_0, gb1_0, gb2_0, H⟩
  refine ⟨_, rfl, ?_⟩
  unfold table_Lose.j0 at H
  refine RW.pure tabOk 1 rfl ?_
  refine RW.done ?_
  refine NW.next ?_
  refine CW.seq ?_
  refine CW.lex [.W, .W] rfl ?_
  refine RW.pure tabOk 2 rfl ?_
  refine RW.done ?_
  refine NW.next ?_
  by_cases c4 : it14_0 = 0
  ·
   rw [if_pos c4] at H
   refine CW.cond_f rfl (bne_f c4) ?_
   refine CW.skip ?_
   refine NW.next ?_
   refine CW.seq ?_
   refine CW.lex [.L, .M, .W] rfl ?_
   refine RW.load tabOk [.int .i64 y2.Dev, .int .i64 y2.Size, .slice Ab1_2_0 lb1_2_0.length cb1_2_0] (gb1_0.at 0) ⟨rfl, rfl, rfl, rfl⟩ rfl rfl rfl rfl ?_
   refine RW.storeBox tabOk gb2_0 [.int .i64 y2.Dev, .int .i64 y2.Size, .slice Ab1_2_0 lb1_2_0.length cb1_2_0] ⟨rfl, rfl, rfl⟩ rfl rfl rfl rfl rfl rfl rfl rfl ?_
   intro w10 x9 h31
   have h32 : Box w10.heap b2 24 [.int .i64 y2.Dev, .int .i64 y2.Size, .slice Ab1_2_0 lb1_2_0.length cb1_2_0] := h31
   have sx9 := x9.size
   refine RW.pure tabOk 1 rfl ?_
   refine RW.done ?_
   refine NW.next ?_
   refine CW.ret ?_
   have h33 := fb1_2_0.turnB x9 gb2_0 ⟨.inl (show (45 : Nat) ≠ 24 by decide), trivial⟩ trivial
   obtain rfl := Option.some.inj H
   have h34 := Ext.turnB x0_0 x9 (by omega)
   exact NW.ret2 rfl (resOne_cell tabOk (h32.at 0) rfl rfl rfl) (by rfl) ⟨Ab1_2_0, cb1_2_0, rfl, h34, (h33.sub (l' := [(w.heap.size, none, some 45)]) (li' := []) ⟨(.inl ⟨by omega, trivial, rfl⟩), trivial⟩ trivial)⟩
  ·
   rw [if_neg c4] at H
   refine CW.cond_t rfl (bne_t c4) ?_
   refine CW.seq ?_
   refine CW.lex [.W, .W, .M, .W] rfl ?_
   refine RW.pure tabOk 2 rfl ?_
   refine RW.storeBox tabOk gb2_0 [.int .i64 0, .int .i64 0, .slice none 0 0] ⟨rfl, rfl, rfl⟩ rfl rfl rfl rfl rfl rfl rfl rfl ?_
   intro w11 x10 h35
   have h36 : Box w11.heap b2 24 [.int .i64 0, .int .i64 0, .slice none 0 0] := h35
   have sx10 := x10.size
   refine RW.pure tabOk 1 rfl ?_
   refine RW.done ?_
   refine NW.next ?_
   refine CW.ret ?_
   refine NW.ret_then ?_
   obtain rfl := Option.some.inj H
   have h37 := Ext.turnB x0_0 x10 (by omega)
   exact NW.ret2 rfl (resOne_cell tabOk (h36.at 0) rfl rfl rfl) (by rfl) ⟨none, 0, rfl, h37, Ow.nil⟩
 ·
  rw [if_neg c1] at H
  refine CW.cond_t rfl (not_t (bool_f c1)) ?_
  refine CW.seq ?_
  refine CW.lex [.W, .M, .W] rfl ?_
  refine RW.pure tabOk 1 rfl ?_
  have h38 := h3.ext x3
  refine RW.storeBox tabOk h38 [.int .i64 0, .int .i64 0, .slice none 0 0] ⟨rfl, rfl, rfl⟩ rfl rfl rfl rfl rfl rfl rfl rfl ?_
  intro w12 x11 h39
  have h40 : Box w12.heap b2 24 [.int .i64 0, .int .i64 0, .slice none 0 0] := h39
  have sx11 := x11.size
  refine RW.pure tabOk 1 rfl ?_
  refine RW.done ?_
  refine NW.next ?_
  refine CW.ret ?_
  refine NW.ret_then ?_
  obtain rfl := Option.some.inj H
  have h41 := Ext.turnB (Ext.trans (Ext.trans (Ext.trans x0 x1) x2) x3) x11 (by omega)
  exact NW.ret2 rfl (resOne_cell tabOk (h40.at 0) rfl rfl rfl) (by rfl) ⟨none, 0, rfl, h41, Ow.nil⟩

set_option maxHeartbeats 4000000 in
set_option maxRecDepth 100000 in
theorem table_Tidy_1.calls (p0 : Entry) (r : Bool) (w : World) (H : table_Tidy_1.f p0 = some r) :
    Calls Try.prog 48 #[.agg #[.int .i64 p0.From, .int .i64 p0.Len, .int .i64 p0.Dev, .int .i64 p0.To, .int .i64 p0.Stale]] w fun e w' => e = .returned (.bool r) ∧ Ext w w' := by
 have x0 : Ext w w := Upd.refl _ w
 unfold table_Tidy_1.f at H
 refine calls_start Try.func48 rfl 8 rfl [.agg #[.int .i64 p0.From, .int .i64 p0.Len, .int .i64 p0.Dev, .int .i64 p0.To, .int .i64 p0.Stale]] rfl ?_
 refine CW.seq ?_
 refine CW.lex [.X, .W] rfl ?_
 refine RW.box (cs := [.int .i64 p0.From, .int .i64 p0.Len, .int .i64 p0.Dev, .int .i64 p0.To, .int .i64 p0.Stale]) (.inl rfl) ⟨rfl, rfl, rfl, rfl⟩ rfl rfl rfl ?_
 intro b1 w1 x1 l1 h1
 have sx1 := x1.size
 have ltb1 := h1.lt
 refine RW.pure tabOk 1 rfl ?_
 refine RW.done ?_
 refine NW.next ?_
 refine CW.seq ?_
 refine CW.lex [.W, .L, .W, .L, .W, .W] rfl ?_
 refine RW.pure tabOk 1 rfl ?_
 refine RW.load tabOk [.int .i64 p0.Stale] (h1.at 4) ⟨rfl, rfl, rfl, rfl⟩ rfl rfl rfl rfl ?_
 refine RW.pure tabOk 1 rfl ?_
 refine RW.load tabOk [.int .i64 p0.Len] ((h1.at 1).take 1 rfl) ⟨rfl, rfl, rfl, rfl⟩ rfl rfl rfl rfl ?_
 refine RW.pure tabOk 2 rfl ?_
 refine RW.done ?_
 refine NW.next ?_
 refine CW.ret ?_
 obtain rfl := Option.some.inj H
 have h2 := Ext.trans x0 x1
 exact NW.ret1 rfl (by rfl) ⟨rfl, h2⟩

set_option maxHeartbeats 4000000 in
set_option maxRecDepth 100000 in
theorem table_Tidy.calls (k : Nat) (p0 : Table) (A1 : Option Addr) (c_1 : Nat) (r : Table × Int) (w : World) (hs1 : Sl kEntry w.heap okAll A1 p0.List_) (hl1 : p0.List_.length ≤ c_1) (H : table_Tidy.f k p0 = some r) :
    Calls Try.prog 17 #[.agg #[.int .i64 p0.Dev, .int .i64 p0.Size, .slice A1 p0.List_.length c_1]] w fun e w' => ∃ (B1 : Option Addr) (d1 : Nat), e = .returned (.tuple #[.agg #[.int .i64 r.1.Dev, .int .i64 r.1.Size, .slice B1 r.1.List_.length d1], .int .i64 r.2]) ∧ Ext w w' ∧ Ow kEntry 45 w'.heap (okL [(w.heap.size, none, some 45)]) (okL []) B1 d1 r.1.List_ := by
 have h1 : Sl kEntry w.heap (okL [(0, some w.heap.size, none)]) A1 p0.List_ := hs1.old _ rfl
 have x0 : Ext w w := Upd.refl _ w
 unfold table_Tidy.f at H
 refine calls_start Try.func17 rfl 15 rfl [.agg #[.int .i64 p0.Dev, .int .i64 p0.Size, .slice A1 p0.List_.length c_1]] rfl ?_
 refine CW.seq ?_
 refine CW.lex [.X, .X, .W] rfl ?_
 refine RW.box (cs := [.int .i64 p0.Dev, .int .i64 p0.Size, .slice A1 p0.List_.length c_1]) (.inl rfl) ⟨rfl, rfl, rfl, rfl⟩ rfl rfl rfl ?_
 intro b1 w1 x1 l1 h2
 have sx1 := x1.size
 have ltb1 := h2.lt
 refine RW.alloc tabOk (.inl rfl) ⟨rfl, rfl, rfl, rfl⟩ rfl rfl ?_
 intro b2 w2 x2 l2 h3
 have sx2 := x2.size
 have ltb2 := h3.lt
 refine RW.pure tabOk 1 rfl ?_
 refine RW.done ?_
 refine NW.next ?_
 refine CW.seq ?_
 refine CW.seq ?_
 refine CW.lex [.L, .X, .W] rfl ?_
 have h4 := h2.ext x2
 refine RW.load tabOk [.int .i64 p0.Dev, .int .i64 p0.Size, .slice A1 p0.List_.length c_1] (h4.at 0) ⟨rfl, rfl, rfl, rfl⟩ rfl rfl rfl rfl ?_
 have h5 := (h1.ext x1).ext x2
 obtain ⟨y1, h6, H⟩ := bind_some H
 refine RW.callF (.inl rfl) ent41 ⟨rfl, rfl, rfl, rfl⟩ rfl rfl (table_May.calls k p0 A1 c_1 _ _ h5.all hl1 h6) ?_
 rintro _ w3 ⟨rfl, x3⟩
 refine ⟨_, rfl, x3, ?_⟩
 have sx3 := x3.size
 refine RW.pure tabOk 1 rfl ?_
 refine RW.done ?_
 refine NW.next ?_
 by_cases c1 : y1 = true
 ·
  rw [if_pos c1] at H
  refine CW.cond_f rfl (not_f (c1)) ?_
  refine CW.skip ?_
  refine NW.next ?_
  refine CW.seq ?_
  refine CW.lex [.L, .X, .M] rfl ?_
  have h7 := h4.ext x3
  refine RW.load tabOk [.int .i64 p0.Dev, .int .i64 p0.Size, .slice A1 p0.List_.length c_1] (h7.at 0) ⟨rfl, rfl, rfl, rfl⟩ rfl rfl rfl rfl ?_
  have h8 := h5.ext x3
  obtain ⟨y2, h9, H⟩ := bind_some H
  refine RW.callF (.inl rfl) ent43 ⟨rfl, rfl, rfl, rfl⟩ rfl rfl (table_Own.calls p0 A1 c_1 _ _ h8.all hl1 h9) ?_
  rintro _ w4 ⟨A2, c_2, rfl, x4, h10⟩
  refine ⟨_, rfl, x4, ?_⟩
  have sx4 := x4.size
  have h11 : Ow kEntry 45 w4.heap (okL [(w3.heap.size, some w4.heap.size, some 45)]) (okL []) A2 c_2 y2.List_ := h10.close
  have h12 := h7.ext x4
  refine RW.storeBox tabOk h12 [.int .i64 y2.Dev, .int .i64 y2.Size, .slice A2 y2.List_.length c_2] ⟨rfl, rfl, rfl⟩ rfl rfl rfl rfl rfl rfl rfl rfl ?_
  intro w5 x5 h13
  have h14 : Box w5.heap b1 24 [.int .i64 y2.Dev, .int .i64 y2.Size, .slice A2 y2.List_.length c_2] := h13
  have sx5 := x5.size
  refine RW.done ?_
  refine NW.next ?_
  refine CW.seq ?_
  refine CW.lex [.W, .L, .M, .W, .M] rfl ?_
  refine RW.pure tabOk 1 rfl ?_
  refine RW.load tabOk [.slice A2 y2.List_.length c_2] (h14.at 2) ⟨rfl, rfl, rfl, rfl⟩ rfl rfl rfl rfl ?_
  refine RW.callFM (R := fun e w6 => ∃ (lt12_0 : List Entry) (At12_0 : Option Addr) (ct12_0 : Nat) (lb1_2_0 : List Entry) (Ab1_2_0 : Option Addr) (cb1_2_0 : Nat), e = .returned (.slice At12_0 lt12_0.length ct12_0) ∧ w5.heap.size ≤ w6.heap.size ∧ Ow kEntry 45 w6.heap (okL [(w3.heap.size, some w4.heap.size, some 45)]) (okL []) At12_0 ct12_0 lt12_0 ∧ Ow kEntry 45 w6.heap (okL [(w3.heap.size, some w4.heap.size, some 45)]) (okL []) Ab1_2_0 cb1_2_0 lb1_2_0 ∧ Ext w w6 ∧ Box w6.heap b1 24 [.int .i64 y2.Dev, .int .i64 y2.Size, .slice Ab1_2_0 lb1_2_0.length cb1_2_0] ∧ Box w6.heap b2 24 [.int .i64 0, .int .i64 0, .slice none 0 0] ∧ table_Tidy.j0 y2 lt12_0 lb1_2_0 = some r) ent47 ⟨rfl, rfl, rfl, rfl⟩ rfl rfl rfl ?_ ?_
  ·
   refine calls_start Try.func47 rfl 42 rfl [.slice A2 y2.List_.length c_2, .func (.func 48) #[] #[]] rfl ?_
   refine CW.seq ?_
   refine CW.lex [.W] rfl ?_
   refine RW.pure tabOk 1 rfl ?_
   refine RW.done ?_
   refine NW.next ?_
   refine CW.seq ?_
   refine CW.lex [.W, .W, .X, .W] rfl ?_
   refine RW.pure tabOk 2 rfl ?_
   have xc1 : Ext w5 w5 := Upd.refl _ _
   refine RW.callV (R := fun e w7 => ∃ (it10_1 : Int), e = .returned (.int .i64 it10_1) ∧ w5.heap.size ≤ w7.heap.size ∧ Ow kEntry 45 w7.heap (okL [(w3.heap.size, some w4.heap.size, some 45)]) (okL []) A2 c_2 y2.List_ ∧ Ext w w7 ∧ Ext w5 w7 ∧ Box w7.heap b1 24 [.int .i64 y2.Dev, .int .i64 y2.Size, .slice A2 y2.List_.length c_2] ∧ Box w7.heap b2 24 [.int .i64 0, .int .i64 0, .slice none 0 0] ∧ table_Tidy.j1 k y2 it10_1 = some r) (.inl rfl) ent85 ⟨rfl, rfl, rfl, rfl⟩ rfl rfl rfl ?_ ?_
   ·
    refine calls_start Try.func85 rfl 19 rfl [.slice A2 y2.List_.length c_2, .func (.func 48) #[] #[]] rfl ?_
    refine CW.seq ?_
    refine CW.lex [.W] rfl ?_
    refine RW.pure tabOk 1 rfl ?_
    refine RW.done ?_
    refine NW.next ?_
    refine CW.seq ?_
    refine CW.seq ?_
    refine CW.lex [.W, .W, .W] rfl ?_
    refine RW.pure tabOk 3 rfl ?_
    refine RW.done ?_
    refine NW.next ?_
    refine CW.block ?_
    refine CW.loop (fun n1 a w8 => ∃ (it8_2 : Int), Sat 19 [(0, .slice A2 y2.List_.length c_2), (1, .func (.func 48) #[] #[]), (7, .int .i64 (y2.List_.length : Int)), (8, .int .i64 it8_2)] a ∧ w5.heap.size ≤ w8.heap.size ∧ Ow kEntry 45 w8.heap (okL [(w3.heap.size, some w4.heap.size, some 45)]) (okL []) A2 c_2 y2.List_ ∧ Ext w w8 ∧ Ext w5 w8 ∧ Box w8.heap b1 24 [.int .i64 y2.Dev, .int .i64 y2.Size, .slice A2 y2.List_.length c_2] ∧ Box w8.heap b2 24 [.int .i64 0, .int .i64 0, .slice none 0 0] ∧ table_Tidy.l0 k y2 n1 it8_2 = some r) k ?_ ?_
    have h15 := h11.turnB x5 h12 ⟨.inl (show (45 : Nat) ≠ 24 by decide), trivial⟩ trivial
    have h16 := Ext.turnB (Ext.trans (Ext.trans (Ext.trans (Ext.trans x0 x1) x2) x3) x4) x5 (by omega)
    have h17 := ((h3.ext x3).ext x4).turnB x5 (by omega)
    · exact fun a ha => ⟨0, ha.sub ⟨rfl, rfl, rfl, rfl, trivial⟩, by omega, h15, h16, xc1, h14, h17, H⟩
    intro n1 a w8 hI hp
    obtain ⟨it8_2, hS, hle, gF2_2, x0_2, x_xc1_2, gb1_2, gb2_2, H⟩ := hI
    cases n1 with
    | zero => cases H
    | succ n1 =>
     rw [table_Tidy.l0] at H
     refine CW.go hp hS ?_
     refine CW.seq ?_
     refine CW.lex [.W] rfl ?_
     refine RW.pure tabOk 1 rfl ?_
     refine RW.done ?_
     refine NW.next ?_
     refine CW.seq ?_
     by_cases c2 : it8_2 < (y2.List_.length : Int)
     ·
      rw [if_pos c2] at H
      refine CW.cond_t rfl (decide_eq_true c2) ?_
      refine CW.skip ?_
      refine NW.next ?_
      refine CW.seq ?_
      refine CW.block ?_
      refine CW.seq ?_
      refine CW.lex [.W, .W] rfl ?_
      refine RW.pure tabOk 2 rfl ?_
      refine RW.done ?_
      refine NW.next ?_
      refine CW.seq ?_
      refine CW.lex [.W, .W, .W, .W, .L, .M] rfl ?_
      refine RW.pure tabOk 3 rfl ?_
      obtain ⟨g1, H⟩ := guard_some H
      obtain ⟨ad1, e1, a1⟩ := kEntry_at gF2_2.slL g1.1 g1.2
      refine RW.index tabOk g1.1 g1.2 e1 ⟨rfl, rfl, rfl, rfl⟩ rfl rfl rfl rfl rfl rfl ?_
      refine RW.load tabOk [.int .i64 ((rd y2.List_ it8_2).From), .int .i64 ((rd y2.List_ it8_2).Len), .int .i64 ((rd y2.List_ it8_2).Dev), .int .i64 ((rd y2.List_ it8_2).To), .int .i64 ((rd y2.List_ it8_2).Stale)] a1 ⟨rfl, rfl, rfl, rfl⟩ rfl rfl rfl rfl ?_
      obtain ⟨y3, h18, H⟩ := bind_some H
      refine RW.callV (cap := []) (.inr rfl) ent48 ⟨rfl, rfl, rfl, rfl⟩ rfl rfl rfl (table_Tidy_1.calls (rd y2.List_ it8_2) _ _ h18) ?_
      rintro _ w9 ⟨rfl, x6⟩
      refine ⟨_, rfl, x6, ?_⟩
      have sx6 := x6.size
      refine RW.done ?_
      refine NW.next ?_
      by_cases c3 : y3 = true
      ·
       rw [if_pos c3] at H
       refine CW.cond_t rfl (c3) ?_
       refine CW.seq ?_
       refine CW.lex [.W, .W] rfl ?_
       refine RW.pure tabOk 2 rfl ?_
       refine RW.done ?_
       refine NW.next ?_
       refine CW.ret ?_
       refine NW.ret_block (NW.ret_then (NW.ret_then (NW.ret_block (NW.ret_then ?_))))
       have h19 := gF2_2.ext x6
       have h20 := Ext.trans x0_2 x6
       have h21 := Ext.trans x_xc1_2 x6
       have h22 := gb1_2.ext x6
       have h23 := gb2_2.ext x6
       exact NW.ret1 rfl (by rfl) ⟨it8_2, rfl, by omega, h19, h20, h21, h22, h23, H⟩
      ·
       rw [if_neg c3] at H
       refine CW.cond_f rfl (bool_f c3) ?_
       refine CW.skip ?_
       refine NW.norm_block (NW.next ?_)
       refine CW.lex [.W, .W] rfl ?_
       refine RW.pure tabOk 2 rfl ?_
       refine RW.done ?_
       have h24 := gF2_2.ext x6
       have h25 := Ext.trans x0_2 x6
       have h26 := Ext.trans x_xc1_2 x6
       have h27 := gb1_2.ext x6
       have h28 := gb2_2.ext x6
       exact NW.J fun a ha => ⟨n1, Nat.lt_succ_self n1, (w64 (it8_2 + 1)), ha.sub ⟨rfl, rfl, rfl, rfl, trivial⟩, by omega, h24, h25, h26, h27, h28, H⟩
     ·
      rw [if_neg c2] at H
      refine CW.cond_f rfl (decide_eq_false c2) ?_
      refine CW.exit ?_
      refine NW.exit_then (NW.exit_then (NW.exit_hit ?_))
      refine NW.next ?_
      refine CW.seq ?_
      refine CW.lex [.W] rfl ?_
      refine RW.pure tabOk 1 rfl ?_
      refine RW.done ?_
      refine NW.next ?_
      refine CW.ret ?_
      exact NW.ret1 rfl (by rfl) ⟨(-1), rfl, by omega, gF2_2, x0_2, x_xc1_2, gb1_2, gb2_2, H⟩
   rintro _ w7 ⟨it10_1, rfl, hle, gF2_1, x0_1, x_xc1_1, gb1_1, gb2_1, H⟩
   refine ⟨_, rfl, x_xc1_1, ?_⟩
   unfold table_Tidy.j1 at H
   refine RW.pure tabOk 1 rfl ?_
   refine RW.done ?_
   refine NW.next ?_
   refine CW.seq ?_
   refine CW.seq ?_
   refine CW.lex [.W, .W] rfl ?_
   refine RW.pure tabOk 2 rfl ?_
   refine RW.done ?_
   refine NW.next ?_
   by_cases c4 : it10_1 = (-1)
   ·
    rw [if_pos c4] at H
    refine CW.cond_t rfl (beq_t c4) ?_
    refine CW.seq ?_
    refine CW.lex [.W, .W] rfl ?_
    refine RW.pure tabOk 2 rfl ?_
    refine RW.done ?_
    refine NW.next ?_
    refine CW.ret ?_
    refine NW.ret_then ?_
    exact NW.ret1 rfl (by rfl) ⟨y2.List_, A2, c_2, y2.List_, A2, c_2, rfl, by omega, (gF2_1.sub ⟨(.inl ⟨by omega, by omega, rfl⟩), trivial⟩ trivial), (gF2_1.sub ⟨(.inl ⟨by omega, by omega, rfl⟩), trivial⟩ trivial), x0_1, gb1_1, gb2_1, H⟩
   ·
    rw [if_neg c4] at H
    refine CW.cond_f rfl (beq_f c4) ?_
    refine CW.skip ?_
    refine NW.next ?_
    refine CW.seq ?_
    refine CW.seq ?_
    refine CW.lex [.W, .W, .W] rfl ?_
    refine RW.pure tabOk 3 rfl ?_
    refine RW.done ?_
    refine NW.next ?_
    refine CW.block ?_
    refine CW.loop (fun n2 a w10 => ∃ (lt0_3 : List Entry) (At0_3 : Option Addr) (ct0_3 : Nat) (it5_3 : Int) (it6_3 : Int), Sat 42 [(0, .slice At0_3 lt0_3.length ct0_3), (1, .func (.func 48) #[] #[]), (5, .int .i64 it5_3), (6, .int .i64 it6_3)] a ∧ w7.heap.size ≤ w10.heap.size ∧ Ow kEntry 45 w10.heap (okL [(w3.heap.size, some w4.heap.size, some 45)]) (okL []) At0_3 ct0_3 lt0_3 ∧ Ext w w10 ∧ Box w10.heap b1 24 [.int .i64 y2.Dev, .int .i64 y2.Size, .slice At0_3 lt0_3.length ct0_3] ∧ Box w10.heap b2 24 [.int .i64 0, .int .i64 0, .slice none 0 0] ∧ table_Tidy.l1 y2 n2 lt0_3 it5_3 it6_3 = some r) k ?_ ?_
    · exact fun a ha => ⟨y2.List_, A2, c_2, it10_1, (w64 (it10_1 + 1)), ha.sub ⟨rfl, rfl, rfl, rfl, trivial⟩, by omega, (gF2_1.sub ⟨(.inl ⟨by omega, by omega, rfl⟩), trivial⟩ trivial), x0_1, gb1_1, gb2_1, H⟩
    intro n2 a w10 hI hp
    obtain ⟨lt0_3, At0_3, ct0_3, it5_3, it6_3, hS, hle, ft0_3, x0_3, gb1_3, gb2_3, H⟩ := hI
    cases n2 with
    | zero => cases H
    | succ n2 =>
     rw [table_Tidy.l1] at H
     refine CW.go hp hS ?_
     refine CW.seq ?_
     refine CW.seq ?_
     refine CW.lex [.W, .W, .W, .W] rfl ?_
     refine RW.pure tabOk 4 rfl ?_
     refine RW.done ?_
     refine NW.next ?_
     by_cases c5 : it6_3 < (lt0_3.length : Int)
     ·
      rw [if_pos c5] at H
      refine CW.cond_t rfl (decide_eq_true c5) ?_
      refine CW.skip ?_
      refine NW.next ?_
      refine CW.seqJ (fun a w11 => ∃ (lt0_4 : List Entry) (At0_4 : Option Addr) (ct0_4 : Nat) (it5_4 : Int), Sat 42 [(0, .slice At0_4 lt0_4.length ct0_4), (1, .func (.func 48) #[] #[]), (5, .int .i64 it5_4), (6, .int .i64 it6_3)] a ∧ w10.heap.size ≤ w11.heap.size ∧ Ow kEntry 45 w11.heap (okL [(w3.heap.size, some w4.heap.size, some 45)]) (okL []) At0_4 ct0_4 lt0_4 ∧ Ext w w11 ∧ Box w11.heap b1 24 [.int .i64 y2.Dev, .int .i64 y2.Size, .slice At0_4 lt0_4.length ct0_4] ∧ Box w11.heap b2 24 [.int .i64 0, .int .i64 0, .slice none 0 0] ∧ table_Tidy.j2 it6_3 (table_Tidy.l1 y2 n2) lt0_4 it5_4 = some r) ?_ ?_
      ·
       refine CW.block ?_
       refine CW.seq ?_
       refine CW.lex [.W, .W, .W, .L, .X, .M] rfl ?_
       refine RW.pure tabOk 2 rfl ?_
       obtain ⟨g2, H⟩ := guard_some H
       obtain ⟨ad2, e2, a2⟩ := kEntry_at ft0_3.slL g2.1 g2.2
       refine RW.index tabOk g2.1 g2.2 e2 ⟨rfl, rfl, rfl, rfl⟩ rfl rfl rfl rfl rfl rfl ?_
       refine RW.load tabOk [.int .i64 ((rd lt0_3 it6_3).From), .int .i64 ((rd lt0_3 it6_3).Len), .int .i64 ((rd lt0_3 it6_3).Dev), .int .i64 ((rd lt0_3 it6_3).To), .int .i64 ((rd lt0_3 it6_3).Stale)] a2 ⟨rfl, rfl, rfl, rfl⟩ rfl rfl rfl rfl ?_
       refine RW.alloc tabOk (.inl rfl) ⟨rfl, rfl, rfl, rfl⟩ rfl rfl ?_
       intro b3 w12 x7 l3 h29
       have sx7 := x7.size
       have ltb3 := h29.lt
       refine RW.storeBox tabOk h29 [.int .i64 ((rd lt0_3 it6_3).From), .int .i64 ((rd lt0_3 it6_3).Len), .int .i64 ((rd lt0_3 it6_3).Dev), .int .i64 ((rd lt0_3 it6_3).To), .int .i64 ((rd lt0_3 it6_3).Stale)] ⟨rfl, rfl, rfl⟩ rfl rfl rfl rfl rfl rfl rfl rfl ?_
       intro w13 x8 h30
       have h31 : Box w13.heap b3 45 [.int .i64 ((rd lt0_3 it6_3).From), .int .i64 ((rd lt0_3 it6_3).Len), .int .i64 ((rd lt0_3 it6_3).Dev), .int .i64 ((rd lt0_3 it6_3).To), .int .i64 ((rd lt0_3 it6_3).Stale)] := h30
       have sx8 := x8.size
       refine RW.done ?_
       refine NW.next ?_
       refine CW.seq ?_
       refine CW.lex [.W, .L, .M, .W] rfl ?_
       refine RW.pure tabOk 1 rfl ?_
       refine RW.load tabOk [.int .i64 ((rd lt0_3 it6_3).From), .int .i64 ((rd lt0_3 it6_3).Len), .int .i64 ((rd lt0_3 it6_3).Dev), .int .i64 ((rd lt0_3 it6_3).To), .int .i64 ((rd lt0_3 it6_3).Stale)] (h31.at 0) ⟨rfl, rfl, rfl, rfl⟩ rfl rfl rfl rfl ?_
       obtain ⟨y4, h32, H⟩ := bind_some H
       refine RW.callV (cap := []) (.inr rfl) ent48 ⟨rfl, rfl, rfl, rfl⟩ rfl rfl rfl (table_Tidy_1.calls (rd lt0_3 it6_3) _ _ h32) ?_
       rintro _ w14 ⟨rfl, x9⟩
       refine ⟨_, rfl, x9, ?_⟩
       have sx9 := x9.size
       refine RW.pure tabOk 1 rfl ?_
       refine RW.done ?_
       refine NW.next ?_
       by_cases c6 : y4 = true
       ·
        rw [if_pos c6] at H
        refine CW.cond_f rfl (not_f (c6)) ?_
        refine CW.skip ?_
        refine NW.norm_block ?_
        have h33 := ((ft0_3.ext x7).turnB x8 h29 ⟨.inr (by omega), trivial⟩ trivial).ext x9
        have h34 := Ext.trans (Ext.turnB (Ext.trans x0_3 x7) x8 (by omega)) x9
        have h35 := ((gb1_3.ext x7).turnB x8 (by omega)).ext x9
        have h36 := ((gb2_3.ext x7).turnB x8 (by omega)).ext x9
        exact NW.J fun a ha => ⟨lt0_3, At0_3, ct0_3, it5_3, ha.sub ⟨rfl, rfl, rfl, rfl, trivial⟩, by omega, (h33.sub ⟨(.inl ⟨by omega, by omega, rfl⟩), trivial⟩ trivial), h34, h35, h36, H⟩
       ·
        rw [if_neg c6] at H
        refine CW.cond_t rfl (not_t (bool_f c6)) ?_
        refine CW.seq ?_
        refine CW.lex [.W, .W, .L, .W, .M] rfl ?_
        refine RW.pure tabOk 2 rfl ?_
        have h37 := h31.ext x9
        refine RW.load tabOk [.int .i64 ((rd lt0_3 it6_3).From), .int .i64 ((rd lt0_3 it6_3).Len), .int .i64 ((rd lt0_3 it6_3).Dev), .int .i64 ((rd lt0_3 it6_3).To), .int .i64 ((rd lt0_3 it6_3).Stale)] (h37.at 0) ⟨rfl, rfl, rfl, rfl⟩ rfl rfl rfl rfl ?_
        obtain ⟨g3, H⟩ := guard_some H
        have h38 := ((ft0_3.ext x7).turnB x8 h29 ⟨.inr (by omega), trivial⟩ trivial).ext x9
        obtain ⟨ad3, e3, a3⟩ := kEntry_at h38.slL g3.1 g3.2
        refine RW.index tabOk g3.1 g3.2 e3 ⟨rfl, rfl, rfl, rfl⟩ rfl rfl rfl rfl rfl rfl ?_
        refine RW.storeElL0 (y := (rd lt0_3 it6_3)) (lv := []) tabOk h38 (j := it5_3.toNat) (by have := g3; omega) default [.int .i64 ((rd lt0_3 it6_3).From), .int .i64 ((rd lt0_3 it6_3).Len), .int .i64 ((rd lt0_3 it6_3).Dev), .int .i64 ((rd lt0_3 it6_3).To), .int .i64 ((rd lt0_3 it6_3).Stale)] (fun cs ok' hr => by obtain rfl := kEntry_open hr; exact ⟨by simp, kEntry_mk (rd lt0_3 it6_3)⟩) trivial ⟨rfl, rfl, rfl⟩ rfl rfl e3 rfl rfl rfl rfl rfl ?_
        intro w15 x10 h39
        have sx10 := x10.size
        have h40 := h39.sub (l' := [(w3.heap.size, some w4.heap.size, some 45)]) (li' := []) ⟨(.inl ⟨by omega, by omega, rfl⟩), trivial⟩ trivial
        refine RW.tell 0 (v' := .slice At0_3 (lt0_3.set it5_3.toNat (rd lt0_3 it6_3)).length ct0_3) (by simp only [List.length_set]) rfl ?_
        have h41 := (((gb1_3.ext x7).turnB x8 (by omega)).ext x9).turnL x10 (.inl (by decide))
        have h42 : Box w15.heap b1 24 [.int .i64 y2.Dev, .int .i64 y2.Size, .slice At0_3 (lt0_3.set it5_3.toNat (rd lt0_3 it6_3)).length ct0_3] := by simpa only [List.length_set] using h41
        refine RW.done ?_
        refine NW.next ?_
        refine CW.lex [.W, .W, .W] rfl ?_
        refine RW.pure tabOk 3 rfl ?_
        refine RW.done ?_
        refine NW.norm_block ?_
        have h43 := Ext.turn (Ext.trans (Ext.turnB (Ext.trans x0_3 x7) x8 (by omega)) x9) x10 ⟨by omega, trivial⟩
        have h44 := (((gb2_3.ext x7).turnB x8 (by omega)).ext x9).turnL x10 (.inl (by decide))
        exact NW.J fun a ha => ⟨(lt0_3.set it5_3.toNat (rd lt0_3 it6_3)), At0_3, ct0_3, (w64 (it5_3 + 1)), ha.sub ⟨rfl, rfl, rfl, rfl, trivial⟩, by omega, (h40.sub ⟨(.inl ⟨by omega, by omega, rfl⟩), trivial⟩ trivial), h43, h42, h44, H⟩
      intro a w11 hJ hp
      obtain ⟨lt0_4, At0_4, ct0_4, it5_4, hS, hle, ft0_4, x0_4, gb1_4, gb2_4, H⟩ := hJ
      unfold table_Tidy.j2 at H
      refine CW.go hp hS ?_
      refine CW.lex [.W, .W, .W] rfl ?_
      refine RW.pure tabOk 3 rfl ?_
      refine RW.done ?_
      exact NW.J fun a ha => ⟨n2, Nat.lt_succ_self n2, lt0_4, At0_4, ct0_4, it5_4, (w64 (it6_3 + 1)), ha.sub ⟨rfl, rfl, rfl, rfl, trivial⟩, by omega, (ft0_4.sub ⟨(.inl ⟨by omega, by omega, rfl⟩), trivial⟩ trivial), x0_4, gb1_4, gb2_4, H⟩
     ·
      rw [if_neg c5] at H
      refine CW.cond_f rfl (decide_eq_false c5) ?_
      refine CW.exit ?_
      refine NW.exit_then (NW.exit_then (NW.exit_hit ?_))
      refine NW.next ?_
      refine CW.seq ?_
      refine CW.lex [.W, .W, .W, .M] rfl ?_
      refine RW.pure tabOk 2 rfl ?_
      obtain ⟨g4, H⟩ := guard_some H
      refine RW.sliceFrom tabOk g4.1 g4.2 ft0_3.len ⟨rfl, rfl, rfl, rfl⟩ rfl rfl rfl rfl rfl rfl ?_
      refine RW.clearTail (j := it5_3.toNat) (z0 := (⟨0, 0, 0, 0, 0⟩ : Entry)) tabOk ft0_3 (by have := g4; omega) ⟨rfl, rfl, rfl⟩ rfl rfl rfl rfl rfl (fun _ => (kEntry_mk (⟨0, 0, 0, 0, 0⟩ : Entry))) rfl ?_
      intro w16 x11 h45
      have sx11 := x11.size
      have h46 := h45
      have hl2 := take_rep_len (z := (⟨0, 0, 0, 0, 0⟩ : Entry)) (xs := lt0_3) (show it5_3.toNat ≤ lt0_3.length by have := g4; omega)
      refine RW.tell 0 (v' := .slice At0_3 (lt0_3.take it5_3.toNat ++ List.replicate (lt0_3.length - it5_3.toNat) (⟨0, 0, 0, 0, 0⟩ : Entry)).length ct0_3) (by simp only [hl2]) rfl ?_
      have h47 := gb1_3.turnL x11 (.inl (by decide))
      have h48 : Box w16.heap b1 24 [.int .i64 y2.Dev, .int .i64 y2.Size, .slice At0_3 (lt0_3.take it5_3.toNat ++ List.replicate (lt0_3.length - it5_3.toNat) (⟨0, 0, 0, 0, 0⟩ : Entry)).length ct0_3] := by simpa only [hl2] using h47
      refine RW.done ?_
      refine NW.next ?_
      refine CW.seq ?_
      refine CW.lex [.W, .W, .W, .W] rfl ?_
      refine RW.pure tabOk 2 rfl ?_
      obtain ⟨g5, H⟩ := guard_some H
      refine RW.sliceTo tabOk g5.1 g5.2 h46.len ⟨rfl, rfl, rfl, rfl⟩ rfl rfl rfl rfl rfl rfl ?_
      have h49 := h46.take it5_3.toNat
      refine RW.pure tabOk 1 rfl ?_
      refine RW.done ?_
      refine NW.next ?_
      refine CW.ret ?_
      have h50 := Ext.turn x0_3 x11 ⟨by omega, trivial⟩
      have h51 := gb2_3.turnL x11 (.inl (by decide))
      exact NW.ret1 rfl (by rfl) ⟨((lt0_3.take it5_3.toNat ++ List.replicate (lt0_3.length - it5_3.toNat) (⟨0, 0, 0, 0, 0⟩ : Entry)).take it5_3.toNat), At0_3, ct0_3, (lt0_3.take it5_3.toNat ++ List.replicate (lt0_3.length - it5_3.toNat) (⟨0, 0, 0, 0, 0⟩ : Entry)), At0_3, ct0_3, rfl, by omega, (h49.sub ⟨(.inl ⟨by omega, by omega, rfl⟩), trivial⟩ trivial), (h46.sub ⟨(.inl ⟨by omega, by omega, rfl⟩), trivial⟩ trivial), h50, h48, h51, H⟩
  rintro _ w6 ⟨lt12_0, At12_0, ct12_0, lb1_2_0, Ab1_2_0, cb1_2_0, rfl, hle, ft12_0, fb1_2_0, x0_0, gb1_0, gb2_0, H⟩
  refine ⟨_, rfl, ?_⟩
  unfold table_Tidy.j0 at H
  refine RW.pure tabOk 1 rfl ?_
  refine RW.storeBox tabOk gb1_0 [.slice At12_0 lt12_0.length ct12_0] ⟨rfl, rfl, rfl⟩ rfl rfl rfl rfl rfl rfl rfl rfl ?_
  intro w17 x12 h52
  have h53 : Box w17.heap b1 24 [.int .i64 y2.Dev, .int .i64 y2.Size, .slice At12_0 lt12_0.length ct12_0] := h52
  have sx12 := x12.size
  refine RW.done ?_
  refine NW.next ?_
  refine CW.seq ?_
  refine CW.lex [.L, .M, .W] rfl ?_
  refine RW.load tabOk [.int .i64 y2.Dev, .int .i64 y2.Size, .slice At12_0 lt12_0.length ct12_0] (h53.at 0) ⟨rfl, rfl, rfl, rfl⟩ rfl rfl rfl rfl ?_
  have h54 := gb2_0.turnB x12 (by omega)
  refine RW.storeBox tabOk h54 [.int .i64 y2.Dev, .int .i64 y2.Size, .slice At12_0 lt12_0.length ct12_0] ⟨rfl, rfl, rfl⟩ rfl rfl rfl rfl rfl rfl rfl rfl ?_
  intro w18 x13 h55
  have h56 : Box w18.heap b2 24 [.int .i64 y2.Dev, .int .i64 y2.Size, .slice At12_0 lt12_0.length ct12_0] := h55
  have sx13 := x13.size
  refine RW.pure tabOk 1 rfl ?_
  refine RW.done ?_
  refine NW.next ?_
  refine CW.ret ?_
  have h57 := (ft12_0.turnB x12 gb1_0 ⟨.inl (show (45 : Nat) ≠ 24 by decide), trivial⟩ trivial).turnB x13 h54 ⟨.inl (show (45 : Nat) ≠ 24 by decide), trivial⟩ trivial
  obtain rfl := Option.some.inj H
  have h58 := Ext.turnB (Ext.turnB x0_0 x12 (by omega)) x13 (by omega)
  exact NW.ret2 rfl (resOne_cell tabOk (h56.at 0) rfl rfl rfl) (by rfl) ⟨At12_0, ct12_0, rfl, h58, (h57.sub (l' := [(w.heap.size, none, some 45)]) (li' := []) ⟨(.inl ⟨by omega, trivial, rfl⟩), trivial⟩ trivial)⟩
 ·
  rw [if_neg c1] at H
  refine CW.cond_t rfl (not_t (bool_f c1)) ?_
  refine CW.seq ?_
  refine CW.lex [.W, .M, .W] rfl ?_
  refine RW.pure tabOk 1 rfl ?_
  have h59 := h3.ext x3
  refine RW.storeBox tabOk h59 [.int .i64 0, .int .i64 0, .slice none 0 0] ⟨rfl, rfl, rfl⟩ rfl rfl rfl rfl rfl rfl rfl rfl ?_
  intro w19 x14 h60
  have h61 : Box w19.heap b2 24 [.int .i64 0, .int .i64 0, .slice none 0 0] := h60
  have sx14 := x14.size
  refine RW.pure tabOk 1 rfl ?_
  refine RW.done ?_
  refine NW.next ?_
  refine CW.ret ?_
  refine NW.ret_then ?_
  obtain rfl := Option.some.inj H
  have h62 := Ext.turnB (Ext.trans (Ext.trans (Ext.trans x0 x1) x2) x3) x14 (by omega)
  exact NW.ret2 rfl (resOne_cell tabOk (h61.at 0) rfl rfl rfl) (by rfl) ⟨none, 0, rfl, h62, Ow.nil⟩

set_option maxHeartbeats 4000000 in
set_option maxRecDepth 100000 in
theorem table_Live.calls (k : Nat) (p0 : Table) (A1 : Option Addr) (c_1 : Nat) (r : Int × Int) (w : World) (hs1 : Sl kEntry w.heap okAll A1 p0.List_) (hl1 : p0.List_.length ≤ c_1) (H : table_Live.f k p0 = some r) :
    Calls Try.prog 18 #[.agg #[.int .i64 p0.Dev, .int .i64 p0.Size, .slice A1 p0.List_.length c_1]] w fun e w' => e = .returned (.tuple #[.int .i64 r.1, .int .i64 r.2]) ∧ Ext w w' := by
 have h1 : Sl kEntry w.heap (okL [(0, some w.heap.size, none)]) A1 p0.List_ := hs1.old _ rfl
 have x0 : Ext w w := Upd.refl _ w
 unfold table_Live.f at H
 refine calls_start Try.func18 rfl 26 rfl [.agg #[.int .i64 p0.Dev, .int .i64 p0.Size, .slice A1 p0.List_.length c_1]] rfl ?_
 refine CW.seq ?_
 refine CW.lex [.X, .W, .W] rfl ?_
 refine RW.box (cs := [.int .i64 p0.Dev, .int .i64 p0.Size, .slice A1 p0.List_.length c_1]) (.inl rfl) ⟨rfl, rfl, rfl, rfl⟩ rfl rfl rfl ?_
 intro b1 w1 x1 l1 h2
 have sx1 := x1.size
 have ltb1 := h2.lt
 refine RW.pure tabOk 2 rfl ?_
 refine RW.done ?_
 refine NW.next ?_
 refine CW.seq ?_
 refine CW.seq ?_
 refine CW.lex [.L, .X, .W] rfl ?_
 refine RW.load tabOk [.int .i64 p0.Dev, .int .i64 p0.Size, .slice A1 p0.List_.length c_1] (h2.at 0) ⟨rfl, rfl, rfl, rfl⟩ rfl rfl rfl rfl ?_
 have h3 := h1.ext x1
 obtain ⟨y1, h4, H⟩ := bind_some H
 refine RW.callF (.inl rfl) ent41 ⟨rfl, rfl, rfl, rfl⟩ rfl rfl (table_May.calls k p0 A1 c_1 _ _ h3.all hl1 h4) ?_
 rintro _ w2 ⟨rfl, x2⟩
 refine ⟨_, rfl, x2, ?_⟩
 have sx2 := x2.size
 refine RW.pure tabOk 1 rfl ?_
 refine RW.done ?_
 refine NW.next ?_
 by_cases c1 : y1 = true
 ·
  rw [if_pos c1] at H
  refine CW.cond_f rfl (not_f (c1)) ?_
  refine CW.skip ?_
  refine NW.next ?_
  refine CW.seq ?_
  refine CW.lex [.W] rfl ?_
  refine RW.pure tabOk 1 rfl ?_
  refine RW.done ?_
  refine NW.next ?_
  refine CW.seq ?_
  refine CW.seq ?_
  refine CW.lex [.W, .L, .W, .W] rfl ?_
  refine RW.pure tabOk 1 rfl ?_
  have h5 := h2.ext x2
  refine RW.load tabOk [.slice A1 p0.List_.length c_1] (h5.at 2) ⟨rfl, rfl, rfl, rfl⟩ rfl rfl rfl rfl ?_
  refine RW.pure tabOk 2 rfl ?_
  refine RW.done ?_
  refine NW.next ?_
  refine CW.block ?_
  refine CW.loop (fun n1 a w3 => ∃ (it4_0 : Int) (it13_0 : Int), Sat 26 [(4, .int .i64 it4_0), (11, .slice A1 p0.List_.length c_1), (12, .int .i64 (p0.List_.length : Int)), (13, .int .i64 it13_0)] a ∧ w2.heap.size ≤ w3.heap.size ∧ Sl kEntry w3.heap (okL [(0, some w.heap.size, none)]) A1 p0.List_ ∧ Ext w w3 ∧ table_Live.l0 p0 n1 it4_0 it13_0 = some r) k ?_ ?_
  have h6 := h3.ext x2
  have h7 := Ext.trans (Ext.trans x0 x1) x2
  · exact fun a ha => ⟨0, 0, ha.sub ⟨rfl, rfl, rfl, rfl, trivial⟩, by omega, h6, h7, H⟩
  intro n1 a w3 hI hp
  obtain ⟨it4_0, it13_0, hS, hle, gF1_0, x0_0, H⟩ := hI
  cases n1 with
  | zero => cases H
  | succ n1 =>
   rw [table_Live.l0] at H
   refine CW.go hp hS ?_
   refine CW.seq ?_
   refine CW.lex [.W] rfl ?_
   refine RW.pure tabOk 1 rfl ?_
   refine RW.done ?_
   refine NW.next ?_
   refine CW.seq ?_
   by_cases c2 : it13_0 < (p0.List_.length : Int)
   ·
    rw [if_pos c2] at H
    refine CW.cond_t rfl (decide_eq_true c2) ?_
    refine CW.skip ?_
    refine NW.next ?_
    refine CW.seq ?_
    refine CW.block ?_
    refine CW.seq ?_
    refine CW.lex [.W, .L, .X, .M] rfl ?_
    obtain ⟨g1, H⟩ := guard_some H
    obtain ⟨ad1, e1, a1⟩ := kEntry_at gF1_0 g1.1 g1.2
    refine RW.index tabOk g1.1 g1.2 e1 ⟨rfl, rfl, rfl, rfl⟩ rfl rfl rfl rfl rfl rfl ?_
    refine RW.load tabOk [.int .i64 ((rd p0.List_ it13_0).From), .int .i64 ((rd p0.List_ it13_0).Len), .int .i64 ((rd p0.List_ it13_0).Dev), .int .i64 ((rd p0.List_ it13_0).To), .int .i64 ((rd p0.List_ it13_0).Stale)] a1 ⟨rfl, rfl, rfl, rfl⟩ rfl rfl rfl rfl ?_
    refine RW.alloc tabOk (.inl rfl) ⟨rfl, rfl, rfl, rfl⟩ rfl rfl ?_
    intro b2 w4 x3 l2 h8
    have sx3 := x3.size
    have ltb2 := h8.lt
    refine RW.storeBox tabOk h8 [.int .i64 ((rd p0.List_ it13_0).From), .int .i64 ((rd p0.List_ it13_0).Len), .int .i64 ((rd p0.List_ it13_0).Dev), .int .i64 ((rd p0.List_ it13_0).To), .int .i64 ((rd p0.List_ it13_0).Stale)] ⟨rfl, rfl, rfl⟩ rfl rfl rfl rfl rfl rfl rfl rfl ?_
    intro w5 x4 h9
    have h10 : Box w5.heap b2 45 [.int .i64 ((rd p0.List_ it13_0).From), .int .i64 ((rd p0.List_ it13_0).Len), .int .i64 ((rd p0.List_ it13_0).Dev), .int .i64 ((rd p0.List_ it13_0).To), .int .i64 ((rd p0.List_ it13_0).Stale)] := h9
    have sx4 := x4.size
    refine RW.done ?_
    refine NW.next ?_
    refine CW.lex [.W, .W, .L, .W, .L, .W, .W, .W] rfl ?_
    refine RW.pure tabOk 2 rfl ?_
    refine RW.load tabOk [.int .i64 ((rd p0.List_ it13_0).Len)] ((h10.at 1).take 1 rfl) ⟨rfl, rfl, rfl, rfl⟩ rfl rfl rfl rfl ?_
    refine RW.pure tabOk 1 rfl ?_
    refine RW.load tabOk [.int .i64 ((rd p0.List_ it13_0).Stale)] (h10.at 4) ⟨rfl, rfl, rfl, rfl⟩ rfl rfl rfl rfl ?_
    refine RW.pure tabOk 3 rfl ?_
    refine RW.done ?_
    refine NW.norm_block (NW.next ?_)
    refine CW.lex [.W, .W] rfl ?_
    refine RW.pure tabOk 2 rfl ?_
    refine RW.done ?_
    have h11 := (gF1_0.ext x3).turnB x4 h8 ⟨.inr (by omega), trivial⟩
    have h12 := Ext.turnB (Ext.trans x0_0 x3) x4 (by omega)
    exact NW.J fun a ha => ⟨n1, Nat.lt_succ_self n1, (w64 (it4_0 + (w64 (((rd p0.List_ it13_0).Len) - ((rd p0.List_ it13_0).Stale))))), (w64 (it13_0 + 1)), ha.sub ⟨rfl, rfl, rfl, rfl, trivial⟩, by omega, h11, h12, H⟩
   ·
    rw [if_neg c2] at H
    refine CW.cond_f rfl (decide_eq_false c2) ?_
    refine CW.exit ?_
    refine NW.exit_then (NW.exit_then (NW.exit_hit ?_))
    refine NW.next ?_
    refine CW.seq ?_
    refine CW.lex [.W, .W, .W] rfl ?_
    refine RW.pure tabOk 3 rfl ?_
    refine RW.done ?_
    refine NW.next ?_
    refine CW.ret ?_
    obtain rfl := Option.some.inj H
    exact NW.ret2 rfl (by rfl) (by rfl) ⟨rfl, x0_0⟩
 ·
  rw [if_neg c1] at H
  refine CW.cond_t rfl (not_t (bool_f c1)) ?_
  refine CW.seq ?_
  refine CW.lex [.W, .W] rfl ?_
  refine RW.pure tabOk 2 rfl ?_
  refine RW.done ?_
  refine NW.next ?_
  refine CW.ret ?_
  refine NW.ret_then ?_
  obtain rfl := Option.some.inj H
  have h13 := Ext.trans (Ext.trans x0 x1) x2
  exact NW.ret2 rfl (by rfl) (by rfl) ⟨rfl, h13⟩

set_option maxHeartbeats 4000000 in
set_option maxRecDepth 100000 in
theorem hermitageref0_Between.calls (p0 : Int) (p1 : Int) (p2 : Int) (r : Bool) (w : World) (H : hermitageref0_Between.f p0 p1 p2 = some r) :
    Calls Try.prog 37 #[.int .i64 p0, .int .i64 p1, .int .i64 p2] w fun e w' => e = .returned (.bool r) ∧ Ext w w' := by
 have x0 : Ext w w := Upd.refl _ w
 unfold hermitageref0_Between.f at H
 refine calls_start Try.func37 rfl 15 rfl [.int .i64 p0, .int .i64 p1, .int .i64 p2] rfl ?_
 refine CW.seq ?_
 refine CW.lex [.W] rfl ?_
 refine RW.pure tabOk 1 rfl ?_
 refine RW.done ?_
 refine NW.next ?_
 refine CW.seq ?_
 refine CW.lex [.W, .W, .W, .W, .W, .W, .W, .W, .W] rfl ?_
 refine RW.pure tabOk 4 rfl ?_
 by_cases c1 : p1 ≤ p0
 ·
  rw [if_pos c1] at H
  refine RW.bool 10 (b' := true) (decide_eq_true c1) rfl ?_
  refine RW.pure tabOk 5 rfl ?_
  refine RW.done ?_
  refine NW.next ?_
  refine CW.ret ?_
  obtain rfl := Option.some.inj H
  exact NW.ret1 rfl (by rfl) ⟨rfl, x0⟩
 ·
  rw [if_neg c1] at H
  refine RW.bool 10 (b' := false) (decide_eq_false c1) rfl ?_
  refine RW.pure tabOk 5 rfl ?_
  refine RW.done ?_
  refine NW.next ?_
  refine CW.ret ?_
  obtain rfl := Option.some.inj H
  exact NW.ret1 rfl (by rfl) ⟨rfl, x0⟩

set_option maxHeartbeats 4000000 in
set_option maxRecDepth 100000 in
theorem hermitageref7_Place.calls (p0 : Int) (p1 : Ptr) (p2 : Int) (r : Bool) (w : World) (H : hermitageref7_Place.f p0 p1 p2 = some r) :
    Calls Try.prog 49 #[.int .i64 p0, .agg #[.int .i64 p1.Dev, .int .i64 p1.At], .int .i64 p2] w fun e w' => e = .returned (.bool r) ∧ Ext w w' := by
 have x0 : Ext w w := Upd.refl _ w
 unfold hermitageref7_Place.f at H
 refine calls_start Try.func49 rfl 36 rfl [.int .i64 p0, .agg #[.int .i64 p1.Dev, .int .i64 p1.At], .int .i64 p2] rfl ?_
 refine CW.seq ?_
 refine CW.lex [.X, .W] rfl ?_
 refine RW.box (cs := [.int .i64 p1.Dev, .int .i64 p1.At]) (.inl rfl) ⟨rfl, rfl, rfl, rfl⟩ rfl rfl rfl ?_
 intro b1 w1 x1 l1 h1
 have sx1 := x1.size
 have ltb1 := h1.lt
 refine RW.pure tabOk 1 rfl ?_
 refine RW.done ?_
 refine NW.next ?_
 refine CW.seq ?_
 refine CW.lex [.W, .L, .X, .W, .W, .L, .W, .W, .W, .W, .W, .L, .W, .W, .W, .W, .W, .W, .W, .W, .W, .W, .W, .W, .L, .W, .W, .W, .W, .W] rfl ?_
 refine RW.pure tabOk 1 rfl ?_
 refine RW.load tabOk [.int .i64 p1.Dev] ((h1.at 0).take 1 rfl) ⟨rfl, rfl, rfl, rfl⟩ rfl rfl rfl rfl ?_
 obtain ⟨y1, h2, H⟩ := bind_some H
 refine RW.callF (.inl rfl) ent37 ⟨rfl, rfl, rfl, rfl⟩ rfl rfl (hermitageref0_Between.calls p1.Dev 1 40 _ _ h2) ?_
 rintro _ w2 ⟨rfl, x2⟩
 refine ⟨_, rfl, x2, ?_⟩
 have sx2 := x2.size
 refine RW.pure tabOk 1 rfl ?_
 by_cases c1 : y1 = true
 ·
  rw [if_pos c1] at H
  refine RW.bool 10 (b' := true) (c1) rfl ?_
  refine RW.pure tabOk 1 rfl ?_
  have h3 := h1.ext x2
  refine RW.load tabOk [.int .i64 p1.Dev] ((h3.at 0).take 1 rfl) ⟨rfl, rfl, rfl, rfl⟩ rfl rfl rfl rfl ?_
  refine RW.pure tabOk 4 rfl ?_
  by_cases c2 : p1.Dev = p0
  ·
   rw [if_pos c2] at H
   refine RW.bool 16 (b' := false) (bne_f c2) rfl ?_
   refine RW.pure tabOk 20 rfl ?_
   refine RW.done ?_
   refine NW.next ?_
   refine CW.ret ?_
   obtain rfl := Option.some.inj H
   have h4 := Ext.trans (Ext.trans x0 x1) x2
   exact NW.ret1 rfl (by rfl) ⟨rfl, h4⟩
  ·
   rw [if_neg c2] at H
   refine RW.bool 16 (b' := true) (bne_t c2) rfl ?_
   refine RW.pure tabOk 1 rfl ?_
   refine RW.load tabOk [.int .i64 p1.At] (h3.at 1) ⟨rfl, rfl, rfl, rfl⟩ rfl rfl rfl rfl ?_
   refine RW.pure tabOk 3 rfl ?_
   by_cases c3 : 0 ≤ p1.At
   ·
    rw [if_pos c3] at H
    refine RW.bool 21 (b' := true) (decide_eq_true c3) rfl ?_
    refine RW.pure tabOk 4 rfl ?_
    by_cases c4 : 1 ≤ p2
    ·
     rw [if_pos c4] at H
     refine RW.bool 25 (b' := true) (decide_eq_true c4) rfl ?_
     refine RW.pure tabOk 4 rfl ?_
     by_cases c5 : p2 ≤ 64
     ·
      rw [if_pos c5] at H
      refine RW.bool 29 (b' := true) (decide_eq_true c5) rfl ?_
      refine RW.pure tabOk 1 rfl ?_
      refine RW.load tabOk [.int .i64 p1.At] (h3.at 1) ⟨rfl, rfl, rfl, rfl⟩ rfl rfl rfl rfl ?_
      refine RW.pure tabOk 5 rfl ?_
      refine RW.done ?_
      refine NW.next ?_
      refine CW.ret ?_
      obtain rfl := Option.some.inj H
      have h5 := Ext.trans (Ext.trans x0 x1) x2
      exact NW.ret1 rfl (by rfl) ⟨rfl, h5⟩
     ·
      rw [if_neg c5] at H
      refine RW.bool 29 (b' := false) (decide_eq_false c5) rfl ?_
      refine RW.pure tabOk 7 rfl ?_
      refine RW.done ?_
      refine NW.next ?_
      refine CW.ret ?_
      obtain rfl := Option.some.inj H
      have h6 := Ext.trans (Ext.trans x0 x1) x2
      exact NW.ret1 rfl (by rfl) ⟨rfl, h6⟩
    ·
     rw [if_neg c4] at H
     refine RW.bool 25 (b' := false) (decide_eq_false c4) rfl ?_
     refine RW.pure tabOk 11 rfl ?_
     refine RW.done ?_
     refine NW.next ?_
     refine CW.ret ?_
     obtain rfl := Option.some.inj H
     have h7 := Ext.trans (Ext.trans x0 x1) x2
     exact NW.ret1 rfl (by rfl) ⟨rfl, h7⟩
   ·
    rw [if_neg c3] at H
    refine RW.bool 21 (b' := false) (decide_eq_false c3) rfl ?_
    refine RW.pure tabOk 15 rfl ?_
    refine RW.done ?_
    refine NW.next ?_
    refine CW.ret ?_
    obtain rfl := Option.some.inj H
    have h8 := Ext.trans (Ext.trans x0 x1) x2
    exact NW.ret1 rfl (by rfl) ⟨rfl, h8⟩
 ·
  rw [if_neg c1] at H
  refine RW.bool 10 (b' := false) (bool_f c1) rfl ?_
  refine RW.pure tabOk 26 rfl ?_
  refine RW.done ?_
  refine NW.next ?_
  refine CW.ret ?_
  obtain rfl := Option.some.inj H
  have h9 := Ext.trans (Ext.trans x0 x1) x2
  exact NW.ret1 rfl (by rfl) ⟨rfl, h9⟩

set_option maxHeartbeats 4000000 in
set_option maxRecDepth 100000 in
theorem hermitageref0_Num.calls (p0 : Int) (p1 : Int) (r : Bool) (w : World) (H : hermitageref0_Num.f p0 p1 = some r) :
    Calls Try.prog 50 #[.int .i64 p0, .int .i64 p1] w fun e w' => e = .returned (.bool r) ∧ Ext w w' := by
 have x0 : Ext w w := Upd.refl _ w
 unfold hermitageref0_Num.f at H
 refine calls_start Try.func50 rfl 12 rfl [.int .i64 p0, .int .i64 p1] rfl ?_
 refine CW.seq ?_
 refine CW.lex [.W] rfl ?_
 refine RW.pure tabOk 1 rfl ?_
 refine RW.done ?_
 refine NW.next ?_
 refine CW.seq ?_
 refine CW.lex [.W, .W, .W, .W, .W, .W, .W, .W] rfl ?_
 refine RW.pure tabOk 3 rfl ?_
 by_cases c1 : 0 ≤ p0
 ·
  rw [if_pos c1] at H
  refine RW.bool 7 (b' := true) (decide_eq_true c1) rfl ?_
  refine RW.pure tabOk 5 rfl ?_
  refine RW.done ?_
  refine NW.next ?_
  refine CW.ret ?_
  obtain rfl := Option.some.inj H
  exact NW.ret1 rfl (by rfl) ⟨rfl, x0⟩
 ·
  rw [if_neg c1] at H
  refine RW.bool 7 (b' := false) (decide_eq_false c1) rfl ?_
  refine RW.pure tabOk 5 rfl ?_
  refine RW.done ?_
  refine NW.next ?_
  refine CW.ret ?_
  obtain rfl := Option.some.inj H
  exact NW.ret1 rfl (by rfl) ⟨rfl, x0⟩

set_option maxHeartbeats 4000000 in
set_option maxRecDepth 100000 in
theorem hermitageref7_Table.calls (k : Nat) (p0 : Table) (A1 : Option Addr) (c_1 : Nat) (r : Bool) (w : World) (hs1 : Sl kEntry w.heap okAll A1 p0.List_) (hl1 : p0.List_.length ≤ c_1) (H : hermitageref7_Table.f k p0 = some r) :
    Calls Try.prog 19 #[.agg #[.int .i64 p0.Dev, .int .i64 p0.Size, .slice A1 p0.List_.length c_1]] w fun e w' => e = .returned (.bool r) ∧ Ext w w' := by
 have h1 : Sl kEntry w.heap (okL [(0, some w.heap.size, none)]) A1 p0.List_ := hs1.old _ rfl
 have x0 : Ext w w := Upd.refl _ w
 unfold hermitageref7_Table.f at H
 refine calls_start Try.func19 rfl 80 rfl [.agg #[.int .i64 p0.Dev, .int .i64 p0.Size, .slice A1 p0.List_.length c_1]] rfl ?_
 refine CW.seq ?_
 refine CW.lex [.X, .W] rfl ?_
 refine RW.box (cs := [.int .i64 p0.Dev, .int .i64 p0.Size, .slice A1 p0.List_.length c_1]) (.inl rfl) ⟨rfl, rfl, rfl, rfl⟩ rfl rfl rfl ?_
 intro b1 w1 x1 l1 h2
 have sx1 := x1.size
 have ltb1 := h2.lt
 refine RW.pure tabOk 1 rfl ?_
 refine RW.done ?_
 refine NW.next ?_
 refine CW.seq ?_
 refine CW.seqJ (fun a w2 => ∃ (bt15_0 : Bool), Sat 80 [(1, .pointer (some ⟨b1, 0, none⟩)), (15, .bool bt15_0)] a ∧ w1.heap.size ≤ w2.heap.size ∧ Sl kEntry w2.heap (okL [(0, some w.heap.size, none)]) A1 p0.List_ ∧ Ext w w2 ∧ Box w2.heap b1 24 [.int .i64 p0.Dev, .int .i64 p0.Size, .slice A1 p0.List_.length c_1] ∧ hermitageref7_Table.j0 p0 k bt15_0 = some r) ?_ ?_
 ·
  refine CW.lex [.W, .L, .X, .W, .W, .W, .L, .X, .W, .W] rfl ?_
  refine RW.pure tabOk 1 rfl ?_
  refine RW.load tabOk [.int .i64 p0.Dev] ((h2.at 0).take 1 rfl) ⟨rfl, rfl, rfl, rfl⟩ rfl rfl rfl rfl ?_
  obtain ⟨y1, h3, H⟩ := bind_some H
  refine RW.callF (.inl rfl) ent37 ⟨rfl, rfl, rfl, rfl⟩ rfl rfl (hermitageref0_Between.calls p0.Dev 1 40 _ _ h3) ?_
  rintro _ w3 ⟨rfl, x2⟩
  refine ⟨_, rfl, x2, ?_⟩
  have sx2 := x2.size
  refine RW.pure tabOk 2 rfl ?_
  by_cases c1 : y1 = true
  ·
   rw [if_pos c1] at H
   refine RW.bool 10 (b' := false) (not_f (c1)) rfl ?_
   refine RW.pure tabOk 1 rfl ?_
   have h4 := h2.ext x2
   refine RW.load tabOk [.int .i64 p0.Size] ((h4.at 1).take 1 rfl) ⟨rfl, rfl, rfl, rfl⟩ rfl rfl rfl rfl ?_
   obtain ⟨y2, h5, H⟩ := bind_some H
   refine RW.callF (.inl rfl) ent37 ⟨rfl, rfl, rfl, rfl⟩ rfl rfl (hermitageref0_Between.calls p0.Size 1 64 _ _ h5) ?_
   rintro _ w4 ⟨rfl, x3⟩
   refine ⟨_, rfl, x3, ?_⟩
   have sx3 := x3.size
   refine RW.pure tabOk 2 rfl ?_
   refine RW.done ?_
   have h6 := ((h1.ext x1).ext x2).ext x3
   have h7 := Ext.trans (Ext.trans (Ext.trans x0 x1) x2) x3
   have h8 := h4.ext x3
   exact NW.J fun a ha => ⟨(!y2), ha.sub ⟨rfl, rfl, trivial⟩, by omega, h6, h7, h8, H⟩
  ·
   rw [if_neg c1] at H
   refine RW.bool 10 (b' := true) (not_t (bool_f c1)) rfl ?_
   refine RW.pure tabOk 5 rfl ?_
   refine RW.done ?_
   have h9 := (h1.ext x1).ext x2
   have h10 := Ext.trans (Ext.trans x0 x1) x2
   have h11 := h2.ext x2
   exact NW.J fun a ha => ⟨true, ha.sub ⟨rfl, rfl, trivial⟩, by omega, h9, h10, h11, H⟩
 intro a w2 hJ hp
 obtain ⟨bt15_0, hS, hle, gF1_0, x0_0, gb1_0, H⟩ := hJ
 unfold hermitageref7_Table.j0 at H
 refine CW.go hp hS ?_
 by_cases c2 : bt15_0 = true
 ·
  rw [if_pos c2] at H
  refine CW.cond_t rfl (c2) ?_
  refine CW.seq ?_
  refine CW.lex [.W] rfl ?_
  refine RW.pure tabOk 1 rfl ?_
  refine RW.done ?_
  refine NW.next ?_
  refine CW.ret ?_
  refine NW.ret_then ?_
  obtain rfl := Option.some.inj H
  exact NW.ret1 rfl (by rfl) ⟨rfl, x0_0⟩
 ·
  rw [if_neg c2] at H
  refine CW.cond_f rfl (bool_f c2) ?_
  refine CW.skip ?_
  refine NW.next ?_
  refine CW.seq ?_
  refine CW.lex [.W] rfl ?_
  refine RW.pure tabOk 1 rfl ?_
  refine RW.done ?_
  refine NW.next ?_
  refine CW.seq ?_
  refine CW.seq ?_
  refine CW.lex [.W] rfl ?_
  refine RW.pure tabOk 1 rfl ?_
  refine RW.done ?_
  refine NW.next ?_
  refine CW.block ?_
  refine CW.loop (fun n1 a w5 => ∃ (it3_1 : Int) (it4_1 : Int), Sat 80 [(1, .pointer (some ⟨b1, 0, none⟩)), (3, .int .i64 it3_1), (4, .int .i64 it4_1)] a ∧ w2.heap.size ≤ w5.heap.size ∧ Sl kEntry w5.heap (okL [(0, some w.heap.size, none)]) A1 p0.List_ ∧ Ext w w5 ∧ Box w5.heap b1 24 [.int .i64 p0.Dev, .int .i64 p0.Size, .slice A1 p0.List_.length c_1] ∧ hermitageref7_Table.l0 p0 n1 it3_1 it4_1 = some r) k ?_ ?_
  · exact fun a ha => ⟨0, 0, ha.sub ⟨rfl, rfl, rfl, trivial⟩, by omega, gF1_0, x0_0, gb1_0, H⟩
  intro n1 a w5 hI hp
  obtain ⟨it3_1, it4_1, hS, hle, gF1_1, x0_1, gb1_1, H⟩ := hI
  cases n1 with
  | zero => cases H
  | succ n1 =>
   rw [hermitageref7_Table.l0] at H
   refine CW.go hp hS ?_
   refine CW.seq ?_
   refine CW.seq ?_
   refine CW.lex [.W, .W, .L, .W, .W] rfl ?_
   refine RW.pure tabOk 2 rfl ?_
   refine RW.load tabOk [.slice A1 p0.List_.length c_1] (gb1_1.at 2) ⟨rfl, rfl, rfl, rfl⟩ rfl rfl rfl rfl ?_
   refine RW.pure tabOk 2 rfl ?_
   refine RW.done ?_
   refine NW.next ?_
   by_cases c3 : it4_1 < (p0.List_.length : Int)
   ·
    rw [if_pos c3] at H
    refine CW.cond_t rfl (decide_eq_true c3) ?_
    refine CW.skip ?_
    refine NW.next ?_
    refine CW.seq ?_
    refine CW.block ?_
    refine CW.seq ?_
    refine CW.lex [.W, .L, .W, .W, .L, .X, .M] rfl ?_
    refine RW.pure tabOk 1 rfl ?_
    refine RW.load tabOk [.slice A1 p0.List_.length c_1] (gb1_1.at 2) ⟨rfl, rfl, rfl, rfl⟩ rfl rfl rfl rfl ?_
    refine RW.pure tabOk 1 rfl ?_
    obtain ⟨g1, H⟩ := guard_some H
    obtain ⟨ad1, e1, a1⟩ := kEntry_at gF1_1 g1.1 g1.2
    refine RW.index tabOk g1.1 g1.2 e1 ⟨rfl, rfl, rfl, rfl⟩ rfl rfl rfl rfl rfl rfl ?_
    refine RW.load tabOk [.int .i64 ((rd p0.List_ it4_1).From), .int .i64 ((rd p0.List_ it4_1).Len), .int .i64 ((rd p0.List_ it4_1).Dev), .int .i64 ((rd p0.List_ it4_1).To), .int .i64 ((rd p0.List_ it4_1).Stale)] a1 ⟨rfl, rfl, rfl, rfl⟩ rfl rfl rfl rfl ?_
    refine RW.alloc tabOk (.inl rfl) ⟨rfl, rfl, rfl, rfl⟩ rfl rfl ?_
    intro b2 w6 x4 l2 h12
    have sx4 := x4.size
    have ltb2 := h12.lt
    refine RW.storeBox tabOk h12 [.int .i64 ((rd p0.List_ it4_1).From), .int .i64 ((rd p0.List_ it4_1).Len), .int .i64 ((rd p0.List_ it4_1).Dev), .int .i64 ((rd p0.List_ it4_1).To), .int .i64 ((rd p0.List_ it4_1).Stale)] ⟨rfl, rfl, rfl⟩ rfl rfl rfl rfl rfl rfl rfl rfl ?_
    intro w7 x5 h13
    have h14 : Box w7.heap b2 45 [.int .i64 ((rd p0.List_ it4_1).From), .int .i64 ((rd p0.List_ it4_1).Len), .int .i64 ((rd p0.List_ it4_1).Dev), .int .i64 ((rd p0.List_ it4_1).To), .int .i64 ((rd p0.List_ it4_1).Stale)] := h13
    have sx5 := x5.size
    refine RW.done ?_
    refine NW.next ?_
    refine CW.seq ?_
    refine CW.seqJ (fun a w8 => ∃ (bt74_2 : Bool), Sat 80 [(1, .pointer (some ⟨b1, 0, none⟩)), (4, .int .i64 it4_1), (5, .pointer (some ⟨b2, 0, none⟩)), (74, .bool bt74_2)] a ∧ w7.heap.size ≤ w8.heap.size ∧ Sl kEntry w8.heap (okL [(0, some w.heap.size, none)]) A1 p0.List_ ∧ Ext w w8 ∧ Box w8.heap b1 24 [.int .i64 p0.Dev, .int .i64 p0.Size, .slice A1 p0.List_.length c_1] ∧ Box w8.heap b2 45 [.int .i64 ((rd p0.List_ it4_1).From), .int .i64 ((rd p0.List_ it4_1).Len), .int .i64 ((rd p0.List_ it4_1).Dev), .int .i64 ((rd p0.List_ it4_1).To), .int .i64 ((rd p0.List_ it4_1).Stale)] ∧ hermitageref7_Table.j1 p0 it4_1 (hermitageref7_Table.l0 p0 n1) bt74_2 = some r) ?_ ?_
    ·
     refine CW.lex [.W, .L, .W, .W, .W, .W, .L, .W, .W, .W, .W, .L, .W, .L, .W, .W, .W, .W, .L, .W, .L, .W, .L, .W, .W, .W, .W, .W, .L, .W, .L, .W, .L, .W, .W, .L, .X, .W, .W, .W, .W, .L, .W, .L, .X, .W, .W] rfl ?_
     refine RW.pure tabOk 1 rfl ?_
     refine RW.load tabOk [.int .i64 ((rd p0.List_ it4_1).From)] ((h14.at 0).take 1 rfl) ⟨rfl, rfl, rfl, rfl⟩ rfl rfl rfl rfl ?_
     refine RW.pure tabOk 3 rfl ?_
     by_cases c4 : ((rd p0.List_ it4_1).From) < it3_1
     ·
      rw [if_pos c4] at H
      refine RW.bool 32 (b' := true) (decide_eq_true c4) rfl ?_
      refine RW.pure tabOk 42 rfl ?_
      refine RW.done ?_
      have h15 := (gF1_1.ext x4).turnB x5 h12 ⟨.inr (by omega), trivial⟩
      have h16 := Ext.turnB (Ext.trans x0_1 x4) x5 (by omega)
      have h17 := (gb1_1.ext x4).turnB x5 (by omega)
      exact NW.J fun a ha => ⟨true, ha.sub ⟨rfl, rfl, rfl, rfl, trivial⟩, by omega, h15, h16, h17, h14, H⟩
     ·
      rw [if_neg c4] at H
      refine RW.bool 32 (b' := false) (decide_eq_false c4) rfl ?_
      refine RW.pure tabOk 1 rfl ?_
      refine RW.load tabOk [.int .i64 ((rd p0.List_ it4_1).Len)] ((h14.at 1).take 1 rfl) ⟨rfl, rfl, rfl, rfl⟩ rfl rfl rfl rfl ?_
      refine RW.pure tabOk 3 rfl ?_
      by_cases c5 : ((rd p0.List_ it4_1).Len) < 1
      ·
       rw [if_pos c5] at H
       refine RW.bool 37 (b' := true) (decide_eq_true c5) rfl ?_
       refine RW.pure tabOk 37 rfl ?_
       refine RW.done ?_
       have h18 := (gF1_1.ext x4).turnB x5 h12 ⟨.inr (by omega), trivial⟩
       have h19 := Ext.turnB (Ext.trans x0_1 x4) x5 (by omega)
       have h20 := (gb1_1.ext x4).turnB x5 (by omega)
       exact NW.J fun a ha => ⟨true, ha.sub ⟨rfl, rfl, rfl, rfl, trivial⟩, by omega, h18, h19, h20, h14, H⟩
      ·
       rw [if_neg c5] at H
       refine RW.bool 37 (b' := false) (decide_eq_false c5) rfl ?_
       refine RW.pure tabOk 1 rfl ?_
       refine RW.load tabOk [.int .i64 ((rd p0.List_ it4_1).Len)] ((h14.at 1).take 1 rfl) ⟨rfl, rfl, rfl, rfl⟩ rfl rfl rfl rfl ?_
       refine RW.pure tabOk 1 rfl ?_
       have h21 := (gb1_1.ext x4).turnB x5 (by omega)
       refine RW.load tabOk [.int .i64 p0.Size] ((h21.at 1).take 1 rfl) ⟨rfl, rfl, rfl, rfl⟩ rfl rfl rfl rfl ?_
       refine RW.pure tabOk 3 rfl ?_
       by_cases c6 : p0.Size < ((rd p0.List_ it4_1).Len)
       ·
        rw [if_pos c6] at H
        refine RW.bool 44 (b' := true) (decide_eq_true c6) rfl ?_
        refine RW.pure tabOk 30 rfl ?_
        refine RW.done ?_
        have h22 := (gF1_1.ext x4).turnB x5 h12 ⟨.inr (by omega), trivial⟩
        have h23 := Ext.turnB (Ext.trans x0_1 x4) x5 (by omega)
        exact NW.J fun a ha => ⟨true, ha.sub ⟨rfl, rfl, rfl, rfl, trivial⟩, by omega, h22, h23, h21, h14, H⟩
       ·
        rw [if_neg c6] at H
        refine RW.bool 44 (b' := false) (decide_eq_false c6) rfl ?_
        refine RW.pure tabOk 1 rfl ?_
        refine RW.load tabOk [.int .i64 ((rd p0.List_ it4_1).From)] ((h14.at 0).take 1 rfl) ⟨rfl, rfl, rfl, rfl⟩ rfl rfl rfl rfl ?_
        refine RW.pure tabOk 1 rfl ?_
        refine RW.load tabOk [.int .i64 p0.Size] ((h21.at 1).take 1 rfl) ⟨rfl, rfl, rfl, rfl⟩ rfl rfl rfl rfl ?_
        refine RW.pure tabOk 1 rfl ?_
        refine RW.load tabOk [.int .i64 ((rd p0.List_ it4_1).Len)] ((h14.at 1).take 1 rfl) ⟨rfl, rfl, rfl, rfl⟩ rfl rfl rfl rfl ?_
        refine RW.pure tabOk 4 rfl ?_
        by_cases c7 : (w64 (p0.Size - ((rd p0.List_ it4_1).Len))) < ((rd p0.List_ it4_1).From)
        ·
         rw [if_pos c7] at H
         refine RW.bool 54 (b' := true) (decide_eq_true c7) rfl ?_
         refine RW.pure tabOk 20 rfl ?_
         refine RW.done ?_
         have h24 := (gF1_1.ext x4).turnB x5 h12 ⟨.inr (by omega), trivial⟩
         have h25 := Ext.turnB (Ext.trans x0_1 x4) x5 (by omega)
         exact NW.J fun a ha => ⟨true, ha.sub ⟨rfl, rfl, rfl, rfl, trivial⟩, by omega, h24, h25, h21, h14, H⟩
        ·
         rw [if_neg c7] at H
         refine RW.bool 54 (b' := false) (decide_eq_false c7) rfl ?_
         refine RW.pure tabOk 1 rfl ?_
         refine RW.load tabOk [.int .i64 p0.Dev] ((h21.at 0).take 1 rfl) ⟨rfl, rfl, rfl, rfl⟩ rfl rfl rfl rfl ?_
         refine RW.pure tabOk 1 rfl ?_
         refine RW.load tabOk [.int .i64 ((rd p0.List_ it4_1).Dev)] ((h14.at 2).take 1 rfl) ⟨rfl, rfl, rfl, rfl⟩ rfl rfl rfl rfl ?_
         refine RW.pure tabOk 1 rfl ?_
         refine RW.load tabOk [.int .i64 ((rd p0.List_ it4_1).To)] ((h14.at 3).take 1 rfl) ⟨rfl, rfl, rfl, rfl⟩ rfl rfl rfl rfl ?_
         refine RW.pure tabOk 2 rfl ?_
         refine RW.load tabOk [.int .i64 ((rd p0.List_ it4_1).Len)] ((h14.at 1).take 1 rfl) ⟨rfl, rfl, rfl, rfl⟩ rfl rfl rfl rfl ?_
         obtain ⟨y3, h26, H⟩ := bind_some H
         refine RW.callF (.inl rfl) ent49 ⟨rfl, rfl, rfl, rfl⟩ rfl rfl (hermitageref7_Place.calls p0.Dev (⟨(rd p0.List_ it4_1).Dev, (rd p0.List_ it4_1).To⟩ : Ptr) ((rd p0.List_ it4_1).Len) _ _ h26) ?_
         rintro _ w9 ⟨rfl, x6⟩
         refine ⟨_, rfl, x6, ?_⟩
         have sx6 := x6.size
         refine RW.pure tabOk 3 rfl ?_
         by_cases c8 : y3 = true
         ·
          rw [if_pos c8] at H
          refine RW.bool 67 (b' := false) (not_f (c8)) rfl ?_
          refine RW.pure tabOk 1 rfl ?_
          have h27 := h14.ext x6
          refine RW.load tabOk [.int .i64 ((rd p0.List_ it4_1).Stale)] (h27.at 4) ⟨rfl, rfl, rfl, rfl⟩ rfl rfl rfl rfl ?_
          refine RW.pure tabOk 1 rfl ?_
          refine RW.load tabOk [.int .i64 ((rd p0.List_ it4_1).Len)] ((h27.at 1).take 1 rfl) ⟨rfl, rfl, rfl, rfl⟩ rfl rfl rfl rfl ?_
          obtain ⟨y4, h28, H⟩ := bind_some H
          refine RW.callF (.inl rfl) ent50 ⟨rfl, rfl, rfl, rfl⟩ rfl rfl (hermitageref0_Num.calls ((rd p0.List_ it4_1).Stale) ((rd p0.List_ it4_1).Len) _ _ h28) ?_
          rintro _ w10 ⟨rfl, x7⟩
          refine ⟨_, rfl, x7, ?_⟩
          have sx7 := x7.size
          refine RW.pure tabOk 2 rfl ?_
          refine RW.done ?_
          have h29 := (((gF1_1.ext x4).turnB x5 h12 ⟨.inr (by omega), trivial⟩).ext x6).ext x7
          have h30 := Ext.trans (Ext.trans (Ext.turnB (Ext.trans x0_1 x4) x5 (by omega)) x6) x7
          have h31 := (h21.ext x6).ext x7
          have h32 := h27.ext x7
          exact NW.J fun a ha => ⟨(!y4), ha.sub ⟨rfl, rfl, rfl, rfl, trivial⟩, by omega, h29, h30, h31, h32, H⟩
         ·
          rw [if_neg c8] at H
          refine RW.bool 67 (b' := true) (not_t (bool_f c8)) rfl ?_
          refine RW.pure tabOk 7 rfl ?_
          refine RW.done ?_
          have h33 := ((gF1_1.ext x4).turnB x5 h12 ⟨.inr (by omega), trivial⟩).ext x6
          have h34 := Ext.trans (Ext.turnB (Ext.trans x0_1 x4) x5 (by omega)) x6
          have h35 := h21.ext x6
          have h36 := h14.ext x6
          exact NW.J fun a ha => ⟨true, ha.sub ⟨rfl, rfl, rfl, rfl, trivial⟩, by omega, h33, h34, h35, h36, H⟩
    intro a w8 hJ hp
    obtain ⟨bt74_2, hS, hle, gF1_2, x0_2, gb1_2, gb2_2, H⟩ := hJ
    unfold hermitageref7_Table.j1 at H
    refine CW.go hp hS ?_
    by_cases c9 : bt74_2 = true
    ·
     rw [if_pos c9] at H
     refine CW.cond_t rfl (c9) ?_
     refine CW.seq ?_
     refine CW.lex [.W] rfl ?_
     refine RW.pure tabOk 1 rfl ?_
     refine RW.done ?_
     refine NW.next ?_
     refine CW.ret ?_
     refine NW.ret_then (NW.ret_block (NW.ret_then (NW.ret_then (NW.ret_block (NW.ret_then ?_)))))
     obtain rfl := Option.some.inj H
     exact NW.ret1 rfl (by rfl) ⟨rfl, x0_2⟩
    ·
     rw [if_neg c9] at H
     refine CW.cond_f rfl (bool_f c9) ?_
     refine CW.skip ?_
     refine NW.next ?_
     refine CW.lex [.W, .L, .W, .L, .W, .W] rfl ?_
     refine RW.pure tabOk 1 rfl ?_
     refine RW.load tabOk [.int .i64 ((rd p0.List_ it4_1).From)] ((gb2_2.at 0).take 1 rfl) ⟨rfl, rfl, rfl, rfl⟩ rfl rfl rfl rfl ?_
     refine RW.pure tabOk 1 rfl ?_
     refine RW.load tabOk [.int .i64 ((rd p0.List_ it4_1).Len)] ((gb2_2.at 1).take 1 rfl) ⟨rfl, rfl, rfl, rfl⟩ rfl rfl rfl rfl ?_
     refine RW.pure tabOk 2 rfl ?_
     refine RW.done ?_
     refine NW.norm_block (NW.next ?_)
     refine CW.lex [.W, .W, .W] rfl ?_
     refine RW.pure tabOk 3 rfl ?_
     refine RW.done ?_
     exact NW.J fun a ha => ⟨n1, Nat.lt_succ_self n1, (w64 (((rd p0.List_ it4_1).From) + ((rd p0.List_ it4_1).Len))), (w64 (it4_1 + 1)), ha.sub ⟨rfl, rfl, rfl, trivial⟩, by omega, gF1_2, x0_2, gb1_2, H⟩
   ·
    rw [if_neg c3] at H
    refine CW.cond_f rfl (decide_eq_false c3) ?_
    refine CW.exit ?_
    refine NW.exit_then (NW.exit_then (NW.exit_hit ?_))
    refine NW.next ?_
    refine CW.seq ?_
    refine CW.lex [.W] rfl ?_
    refine RW.pure tabOk 1 rfl ?_
    refine RW.done ?_
    refine NW.next ?_
    refine CW.ret ?_
    obtain rfl := Option.some.inj H
    exact NW.ret1 rfl (by rfl) ⟨rfl, x0_1⟩

set_option maxHeartbeats 4000000 in
set_option maxRecDepth 100000 in
theorem hermitagelaw8_wakes.calls (k : Nat)  (r : Bool) (w : World) (H : hermitagelaw8_wakes.f k = some r) :
    Calls Try.prog 20 #[] w fun e w' => e = .returned (.bool r) ∧ Ext w w' := by
 have x0 : Ext w w := Upd.refl _ w
 unfold hermitagelaw8_wakes.f at H
 refine calls_start Try.func20 rfl 38 rfl [] rfl ?_
 refine CW.seq ?_
 refine CW.lex [.W] rfl ?_
 refine RW.pure tabOk 1 rfl ?_
 refine RW.done ?_
 refine NW.next ?_
 refine CW.seq ?_
 refine CW.lex [.W, .W, .X, .W, .W, .W, .X, .M, .W] rfl ?_
 refine RW.pure tabOk 2 rfl ?_
 obtain ⟨y1, h1, H⟩ := bind_some H
 refine RW.callF (.inl rfl) ent12 ⟨rfl, rfl, rfl, rfl⟩ rfl rfl (table_Add.calls k (⟨1, 4, ([] : List Entry)⟩ : Table) none 0 0 (⟨2, 5⟩ : Ptr) _ _ Sl.nil (Nat.le_refl 0) h1) ?_
 rintro _ w1 ⟨A1, c_1, rfl, x1, h2⟩
 refine ⟨_, rfl, x1, ?_⟩
 have sx1 := x1.size
 have h3 : Ow kEntry 45 w1.heap (okL [(w.heap.size, some w1.heap.size, some 45)]) (okL []) A1 c_1 y1.1.List_ := h2.close
 refine RW.pure tabOk 3 rfl ?_
 refine RW.alloc tabOk (.inl rfl) ⟨rfl, rfl, rfl, rfl⟩ rfl rfl ?_
 intro b1 w2 x2 l1 h4
 have sx2 := x2.size
 have ltb1 := h4.lt
 refine RW.storeBox tabOk h4 [.int .i64 y1.1.Dev, .int .i64 y1.1.Size, .slice A1 y1.1.List_.length c_1] ⟨rfl, rfl, rfl⟩ rfl rfl rfl rfl rfl rfl rfl rfl ?_
 intro w3 x3 h5
 have h6 : Box w3.heap b1 24 [.int .i64 y1.1.Dev, .int .i64 y1.1.Size, .slice A1 y1.1.List_.length c_1] := h5
 have sx3 := x3.size
 refine RW.pure tabOk 1 rfl ?_
 refine RW.done ?_
 refine NW.next ?_
 refine CW.seq ?_
 refine CW.lex [.L, .W, .X, .W, .W, .W, .M, .W] rfl ?_
 refine RW.load tabOk [.int .i64 y1.1.Dev, .int .i64 y1.1.Size, .slice A1 y1.1.List_.length c_1] (h6.at 0) ⟨rfl, rfl, rfl, rfl⟩ rfl rfl rfl rfl ?_
 refine RW.pure tabOk 1 rfl ?_
 have h7 := (h3.ext x2).turnB x3 h4 ⟨.inl (show (45 : Nat) ≠ 24 by decide), trivial⟩ trivial
 obtain ⟨y2, h8, H⟩ := bind_some H
 refine RW.callF (.inl rfl) ent12 ⟨rfl, rfl, rfl, rfl⟩ rfl rfl (table_Add.calls k y1.1 A1 c_1 1 (⟨2, 6⟩ : Ptr) _ _ h7.all h7.len h8) ?_
 rintro _ w4 ⟨A2, c_2, rfl, x4, h9⟩
 refine ⟨_, rfl, x4, ?_⟩
 have sx4 := x4.size
 have h10 : Ow kEntry 45 w4.heap (okL [(w3.heap.size, some w4.heap.size, some 45)]) (okL []) A2 c_2 y2.1.List_ := h9.close
 refine RW.pure tabOk 3 rfl ?_
 have h11 := h6.ext x4
 refine RW.storeBox tabOk h11 [.int .i64 y2.1.Dev, .int .i64 y2.1.Size, .slice A2 y2.1.List_.length c_2] ⟨rfl, rfl, rfl⟩ rfl rfl rfl rfl rfl rfl rfl rfl ?_
 intro w5 x5 h12
 have h13 : Box w5.heap b1 24 [.int .i64 y2.1.Dev, .int .i64 y2.1.Size, .slice A2 y2.1.List_.length c_2] := h12
 have sx5 := x5.size
 refine RW.pure tabOk 1 rfl ?_
 refine RW.done ?_
 refine NW.next ?_
 refine CW.seq ?_
 refine CW.lex [.W, .X, .W, .W, .W, .X, .W, .W, .W, .W, .L, .W, .W, .W, .W, .W, .L, .W, .W, .L, .W, .W, .W] rfl ?_
 refine RW.pure tabOk 1 rfl ?_
 obtain ⟨y3, h14, H⟩ := bind_some H
 refine RW.callF (.inl rfl) ent13 ⟨rfl, rfl, rfl, rfl⟩ rfl rfl (hermitagelaw8_num.calls y1.2 _ _ h14) ?_
 rintro _ w6 ⟨rfl, x6⟩
 refine ⟨_, rfl, x6, ?_⟩
 have sx6 := x6.size
 refine RW.pure tabOk 2 rfl ?_
 by_cases c1 : y3 = 0
 ·
  rw [if_pos c1] at H
  refine RW.bool 19 (b' := true) (beq_t c1) rfl ?_
  refine RW.pure tabOk 1 rfl ?_
  obtain ⟨y4, h15, H⟩ := bind_some H
  refine RW.callF (.inl rfl) ent13 ⟨rfl, rfl, rfl, rfl⟩ rfl rfl (hermitagelaw8_num.calls y2.2 _ _ h15) ?_
  rintro _ w7 ⟨rfl, x7⟩
  refine ⟨_, rfl, x7, ?_⟩
  have sx7 := x7.size
  refine RW.pure tabOk 3 rfl ?_
  by_cases c2 : y4 = 0
  ·
   rw [if_pos c2] at H
   refine RW.bool 24 (b' := true) (beq_t c2) rfl ?_
   refine RW.pure tabOk 1 rfl ?_
   have h16 := (h13.ext x6).ext x7
   refine RW.load tabOk [.slice A2 y2.1.List_.length c_2] (h16.at 2) ⟨rfl, rfl, rfl, rfl⟩ rfl rfl rfl rfl ?_
   refine RW.pure tabOk 4 rfl ?_
   by_cases c3 : (y2.1.List_.length : Int) = 1
   ·
    rw [if_pos c3] at H
    refine RW.bool 30 (b' := true) (beq_t c3) rfl ?_
    refine RW.pure tabOk 1 rfl ?_
    refine RW.load tabOk [.slice A2 y2.1.List_.length c_2] (h16.at 2) ⟨rfl, rfl, rfl, rfl⟩ rfl rfl rfl rfl ?_
    obtain ⟨g1, H⟩ := guard_some H
    have h17 := ((h10.turnB x5 h11 ⟨.inl (show (45 : Nat) ≠ 24 by decide), trivial⟩ trivial).ext x6).ext x7
    obtain ⟨ad1, e1, a1⟩ := kEntry_at h17.slL g1.1 g1.2
    refine RW.index tabOk g1.1 g1.2 e1 ⟨rfl, rfl, rfl, rfl⟩ rfl rfl rfl rfl rfl rfl ?_
    refine RW.pure tabOk 1 rfl ?_
    refine RW.load tabOk [.int .i64 ((rd y2.1.List_ 0).Len)] ((a1.fld 1).take 1 rfl) ⟨rfl, rfl, rfl, rfl⟩ rfl rfl rfl rfl ?_
    refine RW.pure tabOk 3 rfl ?_
    refine RW.done ?_
    refine NW.next ?_
    refine CW.ret ?_
    obtain rfl := Option.some.inj H
    have h18 := Ext.trans (Ext.trans (Ext.turnB (Ext.trans (Ext.turnB (Ext.trans (Ext.trans x0 x1) x2) x3 (by omega)) x4) x5 (by omega)) x6) x7
    exact NW.ret1 rfl (by rfl) ⟨rfl, h18⟩
   ·
    rw [if_neg c3] at H
    refine RW.bool 30 (b' := false) (beq_f c3) rfl ?_
    refine RW.pure tabOk 8 rfl ?_
    refine RW.done ?_
    refine NW.next ?_
    refine CW.ret ?_
    obtain rfl := Option.some.inj H
    have h19 := Ext.trans (Ext.trans (Ext.turnB (Ext.trans (Ext.turnB (Ext.trans (Ext.trans x0 x1) x2) x3 (by omega)) x4) x5 (by omega)) x6) x7
    exact NW.ret1 rfl (by rfl) ⟨rfl, h19⟩
  ·
   rw [if_neg c2] at H
   refine RW.bool 24 (b' := false) (beq_f c2) rfl ?_
   refine RW.pure tabOk 14 rfl ?_
   refine RW.done ?_
   refine NW.next ?_
   refine CW.ret ?_
   obtain rfl := Option.some.inj H
   have h20 := Ext.trans (Ext.trans (Ext.turnB (Ext.trans (Ext.turnB (Ext.trans (Ext.trans x0 x1) x2) x3 (by omega)) x4) x5 (by omega)) x6) x7
   exact NW.ret1 rfl (by rfl) ⟨rfl, h20⟩
 ·
  rw [if_neg c1] at H
  refine RW.bool 19 (b' := false) (beq_f c1) rfl ?_
  refine RW.pure tabOk 19 rfl ?_
  refine RW.done ?_
  refine NW.next ?_
  refine CW.ret ?_
  obtain rfl := Option.some.inj H
  have h21 := Ext.trans (Ext.turnB (Ext.trans (Ext.turnB (Ext.trans (Ext.trans x0 x1) x2) x3 (by omega)) x4) x5 (by omega)) x6
  exact NW.ret1 rfl (by rfl) ⟨rfl, h21⟩

end Go.Proofs.Ytnaajldlloglkaa.W
