/- The table of types, the kinds of elements; printed by a program of the claim. -/
import Derived.Test.YtnaajldlloglkaaGreatDoorProg
import Derived.Test.YtnaajldlloglkaaGreatDoorMoveFn
set_option linter.unusedVariables false
set_option linter.unusedSimpArgs false
namespace Go.Proofs.YtnaajldlloglkaaGreatDoor.W
open Go.H Go.Proofs
def tab:Tab:=[(3,⟨.int .i64,1,8,[.int .i64 0]⟩),
 (4,⟨.bool,1,1,[.bool false]⟩),
 (5,⟨.int .u8,1,1,[.int .u8 0]⟩),
 (22,⟨.slice 40,1,24,[.slice none 0 0]⟩),
 (23,⟨.slice 26,1,24,[.slice none 0 0]⟩),
 (24,⟨.slice 66,1,24,[.slice none 0 0]⟩),
 (26,⟨.struct [(0,1),(1,1),(2,1)],3,40,[.int .i64 0,.int .i64 0,.slice none 0 0]⟩),
 (28,⟨.struct [(0,1),(1,1),(2,3)],5,56,[.int .i64 0,.int .i64 0,.int .i64 0,.int .i64 0,.slice none 0 0]⟩),
 (30,⟨.struct [(0,1),(1,1),(2,5),(7,1)],8,112,[.slice none 0 0,.slice none 0 0,.int .i64 0,.int .i64 0,.int .i64 0,.int .i64 0,.slice none 0 0,.int .i64 0]⟩),
 (31,⟨.slice 60,1,24,[.slice none 0 0]⟩),
 (33,⟨.struct [(0,8),(8,1)],9,136,[.slice none 0 0,.slice none 0 0,.int .i64 0,.int .i64 0,.int .i64 0,.int .i64 0,.slice none 0 0,.int .i64 0,.slice none 0 0]⟩),
 (37,⟨.slice 43,1,24,[.slice none 0 0]⟩),
 (38,⟨.slice 105,1,24,[.slice none 0 0]⟩),
 (40,⟨.struct [(0,1),(1,1),(2,1),(3,1)],4,64,[.int .i64 0,.int .i64 0,.slice none 0 0,.slice none 0 0]⟩),
 (43,⟨.struct [(0,1),(1,1)],2,16,[.int .i64 0,.int .i64 0]⟩),
 (51,⟨.slice 124,1,24,[.slice none 0 0]⟩),
 (60,⟨.struct [(0,1),(1,1),(2,1)],3,40,[.int .i64 0,.int .i64 0,.slice none 0 0]⟩),
 (66,⟨.struct [(0,1),(1,1),(2,1),(3,1),(4,1)],5,40,[.int .i64 0,.int .i64 0,.int .i64 0,.int .i64 0,.int .i64 0]⟩),
 (69,⟨.arr 64 4,64,64,(arrB 64 fun _=>false)⟩),
 (78,⟨.struct [(0,8)],8,112,[.slice none 0 0,.slice none 0 0,.int .i64 0,.int .i64 0,.int .i64 0,.int .i64 0,.slice none 0 0,.int .i64 0]⟩),
 (79,⟨.int .u64,1,8,[.int .u64 0]⟩),
 (80,⟨.int .u64,1,8,[.int .u64 0]⟩),
 (98,⟨.slice 3,1,24,[.slice none 0 0]⟩),
 (102,⟨.slice 4,1,24,[.slice none 0 0]⟩),
 (105,⟨.struct [(0,1),(1,1)],2,16,[.int .i64 0,.int .i64 0]⟩),
 (124,⟨.struct [(0,2),(2,2)],4,32,[.int .i64 0,.int .i64 0,.int .i64 0,.int .i64 0]⟩),
 (132,⟨.int .u64,1,8,[.int .u64 0]⟩),
 (155,⟨.word,1,8,[.map none]⟩),
 (175,⟨.arr 64 5,64,64,(arrI .u8 64 fun _=>0)⟩)]
theorem tk:TabOk Tryz.prog tab:=
 ⟨.mk' _ _ _ _ (by kernel_rfl) Tryz.underlying3 rfl rfl (fun h=>by first|rfl|cases h) (by decide) rfl,
  .mk' _ _ _ _ (by kernel_rfl) Tryz.underlying4 rfl rfl (fun h=>by first|rfl|cases h) (by decide) rfl,
  .mk' _ _ _ _ (by kernel_rfl) Tryz.underlying5 rfl rfl (fun h=>by first|rfl|cases h) (by decide) rfl,
  .mk' _ _ _ _ (by kernel_rfl) Tryz.underlying22 rfl rfl (fun h=>by first|rfl|cases h) (by decide) rfl,
  .mk' _ _ _ _ (by kernel_rfl) Tryz.underlying23 rfl rfl (fun h=>by first|rfl|cases h) (by decide) rfl,
  .mk' _ _ _ _ (by kernel_rfl) Tryz.underlying24 rfl rfl (fun h=>by first|rfl|cases h) (by decide) rfl,
  .mk' _ _ _ _ (by kernel_rfl) Tryz.underlying26 ⟨_,rfl,by kernel_rfl,rfl⟩ rfl (fun h=>by first|rfl|cases h) (by decide) rfl,
  .mk' _ _ _ _ (by kernel_rfl) Tryz.underlying28 ⟨_,rfl,by kernel_rfl,rfl⟩ rfl (fun h=>by first|rfl|cases h) (by decide) rfl,
  .mk' _ _ _ _ (by kernel_rfl) Tryz.underlying30 ⟨_,rfl,by kernel_rfl,rfl⟩ rfl (fun h=>by first|rfl|cases h) (by decide) rfl,
  .mk' _ _ _ _ (by kernel_rfl) Tryz.underlying31 rfl rfl (fun h=>by first|rfl|cases h) (by decide) rfl,
  .mk' _ _ _ _ (by kernel_rfl) Tryz.underlying33 ⟨_,rfl,by kernel_rfl,rfl⟩ rfl (fun h=>by first|rfl|cases h) (by decide) rfl,
  .mk' _ _ _ _ (by kernel_rfl) Tryz.underlying37 rfl rfl (fun h=>by first|rfl|cases h) (by decide) rfl,
  .mk' _ _ _ _ (by kernel_rfl) Tryz.underlying38 rfl rfl (fun h=>by first|rfl|cases h) (by decide) rfl,
  .mk' _ _ _ _ (by kernel_rfl) Tryz.underlying40 ⟨_,rfl,by kernel_rfl,rfl⟩ rfl (fun h=>by first|rfl|cases h) (by decide) rfl,
  .mk' _ _ _ _ (by kernel_rfl) Tryz.underlying43 ⟨_,rfl,by kernel_rfl,rfl⟩ rfl (fun h=>by first|rfl|cases h) (by decide) rfl,
  .mk' _ _ _ _ (by kernel_rfl) Tryz.underlying51 rfl rfl (fun h=>by first|rfl|cases h) (by decide) rfl,
  .mk' _ _ _ _ (by kernel_rfl) Tryz.underlying60 ⟨_,rfl,by kernel_rfl,rfl⟩ rfl (fun h=>by first|rfl|cases h) (by decide) rfl,
  .mk' _ _ _ _ (by kernel_rfl) Tryz.underlying66 ⟨_,rfl,by kernel_rfl,rfl⟩ rfl (fun h=>by first|rfl|cases h) (by decide) rfl,
  .mk' _ _ _ _ (by kernel_rfl) Tryz.underlying69 rfl rfl (fun h=>by first|rfl|cases h) (by decide) rfl,
  .mk' _ _ _ _ (by kernel_rfl) Tryz.underlying78 ⟨_,rfl,by kernel_rfl,rfl⟩ rfl (fun h=>by first|rfl|cases h) (by decide) rfl,
  .mk' _ _ _ _ (by kernel_rfl) Tryz.underlying79 rfl rfl (fun h=>by first|rfl|cases h) (by decide) rfl,
  .mk' _ _ _ _ (by kernel_rfl) Tryz.underlying80 rfl rfl (fun h=>by first|rfl|cases h) (by decide) rfl,
  .mk' _ _ _ _ (by kernel_rfl) Tryz.underlying98 rfl rfl (fun h=>by first|rfl|cases h) (by decide) rfl,
  .mk' _ _ _ _ (by kernel_rfl) Tryz.underlying102 rfl rfl (fun h=>by first|rfl|cases h) (by decide) rfl,
  .mk' _ _ _ _ (by kernel_rfl) Tryz.underlying105 ⟨_,rfl,by kernel_rfl,rfl⟩ rfl (fun h=>by first|rfl|cases h) (by decide) rfl,
  .mk' _ _ _ _ (by kernel_rfl) Tryz.underlying124 ⟨_,rfl,by kernel_rfl,rfl⟩ rfl (fun h=>by first|rfl|cases h) (by decide) rfl,
  .mk' _ _ _ _ (by kernel_rfl) Tryz.underlying132 rfl rfl (fun h=>by first|rfl|cases h) (by decide) rfl,
  .mk' _ _ _ _ (by kernel_rfl) Tryz.underlying155 trivial rfl (fun h=>by first|rfl|cases h) (by decide) rfl,
  .mk' _ _ _ _ (by kernel_rfl) Tryz.underlying175 rfl rfl (fun h=>by first|rfl|cases h) (by decide) rfl,trivial⟩
theorem pu {N:Nat} {ops:List Oper} {Q:Exit→Go.Act→World→Prop} {w:World} (n:Nat) {E:Env} {ord:OT} {E2:Env} {ord2:OT} (h:runW tab N ops n E ord=some (E2,ord2)) (k:RW Tryz.prog N ops Q ord2 E2 w):RW Tryz.prog N ops Q ord E w:=RW.pure tk n h k
theorem mixed:Tryz.prog.follows .mixedOrders=true:=by kernel_rfl
def kEntry:Kd Entry:=.iso (.pair (.int .i64) (.pair (.int .i64) (.pair (.int .i64) (.pair (.int .i64) (.int .i64))))) (fun x:Entry=>(x.From,x.Len,x.Dev,x.To,x.Stale))
theorem kEntry_open {h:Heap} {ok:Fp} {cs:List Value} {x:Entry} (k:kEntry.rep h ok cs x):cs=[.int .i64 x.From,.int .i64 x.Len,.int .i64 x.Dev,.int .i64 x.To,.int .i64 x.Stale]:=by
 obtain ⟨_,_,rfl,rfl,⟨_,_,rfl,rfl,⟨_,_,rfl,rfl,⟨_,_,rfl,rfl,rfl⟩⟩⟩⟩:=k
 exact rfl
theorem kEntry_mk {h:Heap} {ok:Fp} (x:Entry):kEntry.rep h ok [.int .i64 x.From,.int .i64 x.Len,.int .i64 x.Dev,.int .i64 x.To,.int .i64 x.Stale] x:=⟨[.int .i64 x.From],[.int .i64 x.Len,.int .i64 x.Dev,.int .i64 x.To,.int .i64 x.Stale],rfl,rfl,⟨[.int .i64 x.Len],[.int .i64 x.Dev,.int .i64 x.To,.int .i64 x.Stale],rfl,rfl,⟨[.int .i64 x.Dev],[.int .i64 x.To,.int .i64 x.Stale],rfl,rfl,⟨[.int .i64 x.To],[.int .i64 x.Stale],rfl,rfl,rfl⟩⟩⟩⟩
theorem kEntry_at {h:Heap} {ok:Fp} {A:Option Addr} {xs:List Entry} (k:Sl kEntry h ok A xs) {i:Int} (h0:0≤i) (h1:i<(xs.length:Int)):∃ad,A=some ad∧At h (ad.add (i.toNat*5)) [.int .i64 ((rd xs i).From),.int .i64 ((rd xs i).Len),.int .i64 ((rd xs i).Dev),.int .i64 ((rd xs i).To),.int .i64 ((rd xs i).Stale)]:=by
 obtain ⟨ad,cs,e,hr,hA⟩:=k.at_ h0 h1 default
 obtain rfl:=kEntry_open hr
 exact ⟨ad,e,hA⟩
def kTableR:Kd Table:=.iso (.pair (.int .i64) (.pair (.int .i64) (.sl kEntry))) (fun x:Table=>(x.Dev,x.Size,x.List_))
theorem kTableR_open {h:Heap} {ok:Fp} {cs:List Value} {x:Table} (k:kTableR.rep h ok cs x):∃(A1:Option Addr) (c1:Nat),cs=[.int .i64 x.Dev,.int .i64 x.Size,.slice A1 x.List_.length c1]∧x.List_.length≤c1∧Sl kEntry h ok A1 x.List_:=by
 obtain ⟨_,_,rfl,rfl,⟨_,_,rfl,rfl,⟨A1,c1,rfl,l1,h1⟩⟩⟩:=k
 exact ⟨A1,c1,rfl,l1,h1⟩
theorem kTableR_mk {h:Heap} {ok:Fp} (x:Table) {A1:Option Addr} {c1:Nat} (l1:x.List_.length≤c1) (h1:Sl kEntry h ok A1 x.List_):kTableR.rep h ok [.int .i64 x.Dev,.int .i64 x.Size,.slice A1 x.List_.length c1] x:=⟨[.int .i64 x.Dev],[.int .i64 x.Size,_],rfl,rfl,⟨[.int .i64 x.Size],[_],rfl,rfl,⟨_,_,rfl,l1,h1⟩⟩⟩
theorem kTableR_at {h:Heap} {ok:Fp} {A:Option Addr} {xs:List Table} (k:Sl kTableR h ok A xs) {i:Int} (h0:0≤i) (h1:i<(xs.length:Int)):∃ad A1 c1,A=some ad∧At h (ad.add (i.toNat*3)) [.int .i64 ((rd xs i).Dev),.int .i64 ((rd xs i).Size),.slice A1 ((rd xs i).List_).length c1]∧(rd xs i).List_.length≤c1∧Sl kEntry h ok A1 (rd xs i).List_:=by
 obtain ⟨ad,cs,e,hr,hA⟩:=k.at_ h0 h1 default
 obtain ⟨A1,c1,rfl,l1,h1⟩:=kTableR_open hr
 exact ⟨ad,A1,c1,e,hA,l1,h1⟩
theorem kTableR_ato {h:Heap} {ok0 ok:Fp} {A:Option Addr} {c:Nat} {xs:List Table} (k:Ow kTableR 26 h ok0 ok A c xs) {i:Int} (h0:0≤i) (h1:i<(xs.length:Int)):∃ad A1 c1,A=some ad∧At h (ad.add (i.toNat*3)) [.int .i64 ((rd xs i).Dev),.int .i64 ((rd xs i).Size),.slice A1 ((rd xs i).List_).length c1]∧(rd xs i).List_.length≤c1∧Sl kEntry h ok A1 (rd xs i).List_:=by
 obtain ⟨ad,cs,e,hr,hA⟩:=k.at_ h0 h1 default
 obtain ⟨A1,c1,rfl,l1,h1⟩:=kTableR_open hr
 exact ⟨ad,A1,c1,e,hA,l1,h1⟩
def kTableO:Kd Table:=.iso (.pair (.int .i64) (.pair (.int .i64) (.ow kEntry 66))) (fun x:Table=>(x.Dev,x.Size,x.List_))
theorem kTableO_open {h:Heap} {ok:Fp} {cs:List Value} {x:Table} (k:kTableO.rep h ok cs x):∃(A1:Option Addr) (c1:Nat),cs=[.int .i64 x.Dev,.int .i64 x.Size,.slice A1 x.List_.length c1]∧Ow kEntry 66 h ok ok A1 c1 x.List_:=by
 obtain ⟨_,_,rfl,rfl,⟨_,_,rfl,rfl,⟨A1,c1,rfl,h1⟩⟩⟩:=k
 exact ⟨A1,c1,rfl,h1⟩
theorem kTableO_mk {h:Heap} {ok:Fp} (x:Table) {A1:Option Addr} {c1:Nat} (h1:Ow kEntry 66 h ok ok A1 c1 x.List_):kTableO.rep h ok [.int .i64 x.Dev,.int .i64 x.Size,.slice A1 x.List_.length c1] x:=⟨[.int .i64 x.Dev],[.int .i64 x.Size,_],rfl,rfl,⟨[.int .i64 x.Size],[_],rfl,rfl,⟨_,_,rfl,h1⟩⟩⟩
theorem kTableO_ato {h:Heap} {ok0 ok:Fp} {A:Option Addr} {c:Nat} {xs:List Table} (k:Ow kTableO 26 h ok0 ok A c xs) {i:Int} (h0:0≤i) (h1:i<(xs.length:Int)):∃ad A1 c1,A=some ad∧At h (ad.add (i.toNat*3)) [.int .i64 ((rd xs i).Dev),.int .i64 ((rd xs i).Size),.slice A1 ((rd xs i).List_).length c1]∧Ow kEntry 66 h ok ok A1 c1 (rd xs i).List_:=by
 obtain ⟨ad,cs,e,hr,hA⟩:=k.at_ h0 h1 default
 obtain ⟨A1,c1,rfl,h1⟩:=kTableO_open hr
 exact ⟨ad,A1,c1,e,hA,h1⟩
def kTableH:Kd Table:=.iso (.pair (.int .i64) (.pair (.int .i64) (.ow (Kd.any Entry 4) 66))) (fun x:Table=>(x.Dev,x.Size,x.List_))
theorem kTableH_open {h:Heap} {ok:Fp} {cs:List Value} {x:Table} (k:kTableH.rep h ok cs x):∃(A1:Option Addr) (c1:Nat),cs=[.int .i64 x.Dev,.int .i64 x.Size,.slice A1 x.List_.length c1]∧Ow (Kd.any Entry 4) 66 h ok ok A1 c1 x.List_:=by
 obtain ⟨_,_,rfl,rfl,⟨_,_,rfl,rfl,⟨A1,c1,rfl,h1⟩⟩⟩:=k
 exact ⟨A1,c1,rfl,h1⟩
theorem kTableH_mk {h:Heap} {ok:Fp} (x:Table) {A1:Option Addr} {c1:Nat} (h1:Ow (Kd.any Entry 4) 66 h ok ok A1 c1 x.List_):kTableH.rep h ok [.int .i64 x.Dev,.int .i64 x.Size,.slice A1 x.List_.length c1] x:=⟨[.int .i64 x.Dev],[.int .i64 x.Size,_],rfl,rfl,⟨[.int .i64 x.Size],[_],rfl,rfl,⟨_,_,rfl,h1⟩⟩⟩
theorem kTableH_ato {h:Heap} {ok0 ok:Fp} {A:Option Addr} {c:Nat} {xs:List Table} (k:Ow kTableH 26 h ok0 ok A c xs) {i:Int} (h0:0≤i) (h1:i<(xs.length:Int)):∃ad A1 c1,A=some ad∧At h (ad.add (i.toNat*3)) [.int .i64 ((rd xs i).Dev),.int .i64 ((rd xs i).Size),.slice A1 ((rd xs i).List_).length c1]∧Ow (Kd.any Entry 4) 66 h ok ok A1 c1 (rd xs i).List_:=by
 obtain ⟨ad,cs,e,hr,hA⟩:=k.at_ h0 h1 default
 obtain ⟨A1,c1,rfl,h1⟩:=kTableH_open hr
 exact ⟨ad,A1,c1,e,hA,h1⟩
def kJobR:Kd Job:=.iso (.pair (.int .i64) (.pair (.int .i64) kTableR)) (fun x:Job=>(x.Dev,x.At,x.Table))
def kSeg:Kd Seg:=.iso (.pair (.int .i64) (.int .i64)) (fun x:Seg=>(x.At,x.Len))
theorem kSeg_open {h:Heap} {ok:Fp} {cs:List Value} {x:Seg} (k:kSeg.rep h ok cs x):cs=[.int .i64 x.At,.int .i64 x.Len]:=by
 obtain ⟨_,_,rfl,rfl,rfl⟩:=k
 exact rfl
theorem kSeg_mk {h:Heap} {ok:Fp} (x:Seg):kSeg.rep h ok [.int .i64 x.At,.int .i64 x.Len] x:=⟨[.int .i64 x.At],[.int .i64 x.Len],rfl,rfl,rfl⟩
theorem kSeg_at {h:Heap} {ok:Fp} {A:Option Addr} {xs:List Seg} (k:Sl kSeg h ok A xs) {i:Int} (h0:0≤i) (h1:i<(xs.length:Int)):∃ad,A=some ad∧At h (ad.add (i.toNat*2)) [.int .i64 ((rd xs i).At),.int .i64 ((rd xs i).Len)]:=by
 obtain ⟨ad,cs,e,hr,hA⟩:=k.at_ h0 h1 default
 obtain rfl:=kSeg_open hr
 exact ⟨ad,e,hA⟩
def kDeviceR:Kd Device:=.iso (.pair (.int .i64) (.pair (.int .i64) (.pair (.sl kSeg) (.sl kSeg)))) (fun x:Device=>(x.ID,x.Size,x.Free,x.Late))
theorem kDeviceR_open {h:Heap} {ok:Fp} {cs:List Value} {x:Device} (k:kDeviceR.rep h ok cs x):∃(A1:Option Addr) (c1:Nat) (A2:Option Addr) (c2:Nat),cs=[.int .i64 x.ID,.int .i64 x.Size,.slice A1 x.Free.length c1,.slice A2 x.Late.length c2]∧x.Free.length≤c1∧Sl kSeg h ok A1 x.Free∧x.Late.length≤c2∧Sl kSeg h ok A2 x.Late:=by
 obtain ⟨_,_,rfl,rfl,⟨_,_,rfl,rfl,⟨_,_,rfl,⟨A1,c1,rfl,l1,h1⟩,⟨A2,c2,rfl,l2,h2⟩⟩⟩⟩:=k
 exact ⟨A1,c1,A2,c2,rfl,l1,h1,l2,h2⟩
theorem kDeviceR_mk {h:Heap} {ok:Fp} (x:Device) {A1:Option Addr} {c1:Nat} (l1:x.Free.length≤c1) (h1:Sl kSeg h ok A1 x.Free) {A2:Option Addr} {c2:Nat} (l2:x.Late.length≤c2) (h2:Sl kSeg h ok A2 x.Late):kDeviceR.rep h ok [.int .i64 x.ID,.int .i64 x.Size,.slice A1 x.Free.length c1,.slice A2 x.Late.length c2] x:=⟨[.int .i64 x.ID],[.int .i64 x.Size,_,_],rfl,rfl,⟨[.int .i64 x.Size],[_,_],rfl,rfl,⟨[_],[_],rfl,⟨_,_,rfl,l1,h1⟩,⟨_,_,rfl,l2,h2⟩⟩⟩⟩
theorem kDeviceR_at {h:Heap} {ok:Fp} {A:Option Addr} {xs:List Device} (k:Sl kDeviceR h ok A xs) {i:Int} (h0:0≤i) (h1:i<(xs.length:Int)):∃ad A1 c1 A2 c2,A=some ad∧At h (ad.add (i.toNat*4)) [.int .i64 ((rd xs i).ID),.int .i64 ((rd xs i).Size),.slice A1 ((rd xs i).Free).length c1,.slice A2 ((rd xs i).Late).length c2]∧(rd xs i).Free.length≤c1∧Sl kSeg h ok A1 (rd xs i).Free∧(rd xs i).Late.length≤c2∧Sl kSeg h ok A2 (rd xs i).Late:=by
 obtain ⟨ad,cs,e,hr,hA⟩:=k.at_ h0 h1 default
 obtain ⟨A1,c1,A2,c2,rfl,l1,h1,l2,h2⟩:=kDeviceR_open hr
 exact ⟨ad,A1,c1,A2,c2,e,hA,l1,h1,l2,h2⟩
theorem kDeviceR_ato {h:Heap} {ok0 ok:Fp} {A:Option Addr} {c:Nat} {xs:List Device} (k:Ow kDeviceR 40 h ok0 ok A c xs) {i:Int} (h0:0≤i) (h1:i<(xs.length:Int)):∃ad A1 c1 A2 c2,A=some ad∧At h (ad.add (i.toNat*4)) [.int .i64 ((rd xs i).ID),.int .i64 ((rd xs i).Size),.slice A1 ((rd xs i).Free).length c1,.slice A2 ((rd xs i).Late).length c2]∧(rd xs i).Free.length≤c1∧Sl kSeg h ok A1 (rd xs i).Free∧(rd xs i).Late.length≤c2∧Sl kSeg h ok A2 (rd xs i).Late:=by
 obtain ⟨ad,cs,e,hr,hA⟩:=k.at_ h0 h1 default
 obtain ⟨A1,c1,A2,c2,rfl,l1,h1,l2,h2⟩:=kDeviceR_open hr
 exact ⟨ad,A1,c1,A2,c2,e,hA,l1,h1,l2,h2⟩
def kDeviceO:Kd Device:=.iso (.pair (.int .i64) (.pair (.int .i64) (.pair (.ow kSeg 105) (.ow kSeg 105)))) (fun x:Device=>(x.ID,x.Size,x.Free,x.Late))
theorem kDeviceO_open {h:Heap} {ok:Fp} {cs:List Value} {x:Device} (k:kDeviceO.rep h ok cs x):∃(A1:Option Addr) (c1:Nat) (A2:Option Addr) (c2:Nat),cs=[.int .i64 x.ID,.int .i64 x.Size,.slice A1 x.Free.length c1,.slice A2 x.Late.length c2]∧Ow kSeg 105 h ok ok A1 c1 x.Free∧Ow kSeg 105 h ok ok A2 c2 x.Late:=by
 obtain ⟨_,_,rfl,rfl,⟨_,_,rfl,rfl,⟨_,_,rfl,⟨A1,c1,rfl,h1⟩,⟨A2,c2,rfl,h2⟩⟩⟩⟩:=k
 exact ⟨A1,c1,A2,c2,rfl,h1,h2⟩
theorem kDeviceO_mk {h:Heap} {ok:Fp} (x:Device) {A1:Option Addr} {c1:Nat} (h1:Ow kSeg 105 h ok ok A1 c1 x.Free) {A2:Option Addr} {c2:Nat} (h2:Ow kSeg 105 h ok ok A2 c2 x.Late):kDeviceO.rep h ok [.int .i64 x.ID,.int .i64 x.Size,.slice A1 x.Free.length c1,.slice A2 x.Late.length c2] x:=⟨[.int .i64 x.ID],[.int .i64 x.Size,_,_],rfl,rfl,⟨[.int .i64 x.Size],[_,_],rfl,rfl,⟨[_],[_],rfl,⟨_,_,rfl,h1⟩,⟨_,_,rfl,h2⟩⟩⟩⟩
theorem kDeviceO_ato {h:Heap} {ok0 ok:Fp} {A:Option Addr} {c:Nat} {xs:List Device} (k:Ow kDeviceO 40 h ok0 ok A c xs) {i:Int} (h0:0≤i) (h1:i<(xs.length:Int)):∃ad A1 c1 A2 c2,A=some ad∧At h (ad.add (i.toNat*4)) [.int .i64 ((rd xs i).ID),.int .i64 ((rd xs i).Size),.slice A1 ((rd xs i).Free).length c1,.slice A2 ((rd xs i).Late).length c2]∧Ow kSeg 105 h ok ok A1 c1 (rd xs i).Free∧Ow kSeg 105 h ok ok A2 c2 (rd xs i).Late:=by
 obtain ⟨ad,cs,e,hr,hA⟩:=k.at_ h0 h1 default
 obtain ⟨A1,c1,A2,c2,rfl,h1,h2⟩:=kDeviceO_open hr
 exact ⟨ad,A1,c1,A2,c2,e,hA,h1,h2⟩
def kDeviceH:Kd Device:=.iso (.pair (.int .i64) (.pair (.int .i64) (.pair (.ow (Kd.any Seg 1) 105) (.ow (Kd.any Seg 1) 105)))) (fun x:Device=>(x.ID,x.Size,x.Free,x.Late))
theorem kDeviceH_open {h:Heap} {ok:Fp} {cs:List Value} {x:Device} (k:kDeviceH.rep h ok cs x):∃(A1:Option Addr) (c1:Nat) (A2:Option Addr) (c2:Nat),cs=[.int .i64 x.ID,.int .i64 x.Size,.slice A1 x.Free.length c1,.slice A2 x.Late.length c2]∧Ow (Kd.any Seg 1) 105 h ok ok A1 c1 x.Free∧Ow (Kd.any Seg 1) 105 h ok ok A2 c2 x.Late:=by
 obtain ⟨_,_,rfl,rfl,⟨_,_,rfl,rfl,⟨_,_,rfl,⟨A1,c1,rfl,h1⟩,⟨A2,c2,rfl,h2⟩⟩⟩⟩:=k
 exact ⟨A1,c1,A2,c2,rfl,h1,h2⟩
theorem kDeviceH_mk {h:Heap} {ok:Fp} (x:Device) {A1:Option Addr} {c1:Nat} (h1:Ow (Kd.any Seg 1) 105 h ok ok A1 c1 x.Free) {A2:Option Addr} {c2:Nat} (h2:Ow (Kd.any Seg 1) 105 h ok ok A2 c2 x.Late):kDeviceH.rep h ok [.int .i64 x.ID,.int .i64 x.Size,.slice A1 x.Free.length c1,.slice A2 x.Late.length c2] x:=⟨[.int .i64 x.ID],[.int .i64 x.Size,_,_],rfl,rfl,⟨[.int .i64 x.Size],[_,_],rfl,rfl,⟨[_],[_],rfl,⟨_,_,rfl,h1⟩,⟨_,_,rfl,h2⟩⟩⟩⟩
theorem kDeviceH_ato {h:Heap} {ok0 ok:Fp} {A:Option Addr} {c:Nat} {xs:List Device} (k:Ow kDeviceH 40 h ok0 ok A c xs) {i:Int} (h0:0≤i) (h1:i<(xs.length:Int)):∃ad A1 c1 A2 c2,A=some ad∧At h (ad.add (i.toNat*4)) [.int .i64 ((rd xs i).ID),.int .i64 ((rd xs i).Size),.slice A1 ((rd xs i).Free).length c1,.slice A2 ((rd xs i).Late).length c2]∧Ow (Kd.any Seg 1) 105 h ok ok A1 c1 (rd xs i).Free∧Ow (Kd.any Seg 1) 105 h ok ok A2 c2 (rd xs i).Late:=by
 obtain ⟨ad,cs,e,hr,hA⟩:=k.at_ h0 h1 default
 obtain ⟨A1,c1,A2,c2,rfl,h1,h2⟩:=kDeviceH_open hr
 exact ⟨ad,A1,c1,A2,c2,e,hA,h1,h2⟩
def kPoolR:Kd Pool:=.iso (.pair (.sl kDeviceR) (.pair (.sl kTableR) (.pair kJobR (.int .i64)))) (fun x:Pool=>(x.Devices,x.Tables,x.Job,x.Next))
def kPtr:Kd Ptr:=.iso (.pair (.int .i64) (.int .i64)) (fun x:Ptr=>(x.Dev,x.At))
theorem kPtr_open {h:Heap} {ok:Fp} {cs:List Value} {x:Ptr} (k:kPtr.rep h ok cs x):cs=[.int .i64 x.Dev,.int .i64 x.At]:=by
 obtain ⟨_,_,rfl,rfl,rfl⟩:=k
 exact rfl
theorem kPtr_mk {h:Heap} {ok:Fp} (x:Ptr):kPtr.rep h ok [.int .i64 x.Dev,.int .i64 x.At] x:=⟨[.int .i64 x.Dev],[.int .i64 x.At],rfl,rfl,rfl⟩
theorem kPtr_at {h:Heap} {ok:Fp} {A:Option Addr} {xs:List Ptr} (k:Sl kPtr h ok A xs) {i:Int} (h0:0≤i) (h1:i<(xs.length:Int)):∃ad,A=some ad∧At h (ad.add (i.toNat*2)) [.int .i64 ((rd xs i).Dev),.int .i64 ((rd xs i).At)]:=by
 obtain ⟨ad,cs,e,hr,hA⟩:=k.at_ h0 h1 default
 obtain rfl:=kPtr_open hr
 exact ⟨ad,e,hA⟩
def kActR:Kd Act:=.iso (.pair (.int .i64) (.pair (.int .i64) (.sl kPtr))) (fun x:Act=>(x.Do,x.N,x.Q))
theorem kActR_open {h:Heap} {ok:Fp} {cs:List Value} {x:Act} (k:kActR.rep h ok cs x):∃(A1:Option Addr) (c1:Nat),cs=[.int .i64 x.Do,.int .i64 x.N,.slice A1 x.Q.length c1]∧x.Q.length≤c1∧Sl kPtr h ok A1 x.Q:=by
 obtain ⟨_,_,rfl,rfl,⟨_,_,rfl,rfl,⟨A1,c1,rfl,l1,h1⟩⟩⟩:=k
 exact ⟨A1,c1,rfl,l1,h1⟩
theorem kActR_mk {h:Heap} {ok:Fp} (x:Act) {A1:Option Addr} {c1:Nat} (l1:x.Q.length≤c1) (h1:Sl kPtr h ok A1 x.Q):kActR.rep h ok [.int .i64 x.Do,.int .i64 x.N,.slice A1 x.Q.length c1] x:=⟨[.int .i64 x.Do],[.int .i64 x.N,_],rfl,rfl,⟨[.int .i64 x.N],[_],rfl,rfl,⟨_,_,rfl,l1,h1⟩⟩⟩
theorem kActR_at {h:Heap} {ok:Fp} {A:Option Addr} {xs:List Act} (k:Sl kActR h ok A xs) {i:Int} (h0:0≤i) (h1:i<(xs.length:Int)):∃ad A1 c1,A=some ad∧At h (ad.add (i.toNat*3)) [.int .i64 ((rd xs i).Do),.int .i64 ((rd xs i).N),.slice A1 ((rd xs i).Q).length c1]∧(rd xs i).Q.length≤c1∧Sl kPtr h ok A1 (rd xs i).Q:=by
 obtain ⟨ad,cs,e,hr,hA⟩:=k.at_ h0 h1 default
 obtain ⟨A1,c1,rfl,l1,h1⟩:=kActR_open hr
 exact ⟨ad,A1,c1,e,hA,l1,h1⟩
def kScriptR:Kd Script:=.iso (.pair kPoolR (.sl kActR)) (fun x:Script=>(x.P,x.A))
theorem kScriptR_open {h:Heap} {ok:Fp} {cs:List Value} {x:Script} (k:kScriptR.rep h ok cs x):∃(A1:Option Addr) (c1:Nat) (A2:Option Addr) (c2:Nat) (A3:Option Addr) (c3:Nat) (A4:Option Addr) (c4:Nat),cs=[.slice A1 x.P.Devices.length c1,.slice A2 x.P.Tables.length c2,.int .i64 x.P.Job.Dev,.int .i64 x.P.Job.At,.int .i64 x.P.Job.Table.Dev,.int .i64 x.P.Job.Table.Size,.slice A3 x.P.Job.Table.List_.length c3,.int .i64 x.P.Next,.slice A4 x.A.length c4]∧x.P.Devices.length≤c1∧Sl kDeviceR h ok A1 x.P.Devices∧x.P.Tables.length≤c2∧Sl kTableR h ok A2 x.P.Tables∧x.P.Job.Table.List_.length≤c3∧Sl kEntry h ok A3 x.P.Job.Table.List_∧x.A.length≤c4∧Sl kActR h ok A4 x.A:=by
 obtain ⟨_,_,rfl,⟨_,_,rfl,⟨A1,c1,rfl,l1,h1⟩,⟨_,_,rfl,⟨A2,c2,rfl,l2,h2⟩,⟨_,_,rfl,⟨_,_,rfl,rfl,⟨_,_,rfl,rfl,⟨_,_,rfl,rfl,⟨_,_,rfl,rfl,⟨A3,c3,rfl,l3,h3⟩⟩⟩⟩⟩,rfl⟩⟩⟩,⟨A4,c4,rfl,l4,h4⟩⟩:=k
 exact ⟨A1,c1,A2,c2,A3,c3,A4,c4,rfl,l1,h1,l2,h2,l3,h3,l4,h4⟩
def kPair:Kd Pair:=.iso (.pair kPtr kPtr) (fun x:Pair=>(x.From,x.To))
theorem kPair_open {h:Heap} {ok:Fp} {cs:List Value} {x:Pair} (k:kPair.rep h ok cs x):cs=[.int .i64 x.From.Dev,.int .i64 x.From.At,.int .i64 x.To.Dev,.int .i64 x.To.At]:=by
 obtain ⟨_,_,rfl,⟨_,_,rfl,rfl,rfl⟩,⟨_,_,rfl,rfl,rfl⟩⟩:=k
 exact rfl
theorem kPair_mk {h:Heap} {ok:Fp} (x:Pair):kPair.rep h ok [.int .i64 x.From.Dev,.int .i64 x.From.At,.int .i64 x.To.Dev,.int .i64 x.To.At] x:=⟨[.int .i64 x.From.Dev,.int .i64 x.From.At],[.int .i64 x.To.Dev,.int .i64 x.To.At],rfl,⟨[.int .i64 x.From.Dev],[.int .i64 x.From.At],rfl,rfl,rfl⟩,⟨[.int .i64 x.To.Dev],[.int .i64 x.To.At],rfl,rfl,rfl⟩⟩
theorem kPair_at {h:Heap} {ok:Fp} {A:Option Addr} {xs:List Pair} (k:Sl kPair h ok A xs) {i:Int} (h0:0≤i) (h1:i<(xs.length:Int)):∃ad,A=some ad∧At h (ad.add (i.toNat*4)) [.int .i64 (((rd xs i).From).Dev),.int .i64 (((rd xs i).From).At),.int .i64 (((rd xs i).To).Dev),.int .i64 (((rd xs i).To).At)]:=by
 obtain ⟨ad,cs,e,hr,hA⟩:=k.at_ h0 h1 default
 obtain rfl:=kPair_open hr
 exact ⟨ad,e,hA⟩
theorem kTable_ro {h:Heap} {ok:Fp} {cs:List Value} {x:Table} (k:kTableO.rep h ok cs x):kTableR.rep h ok cs x:=by
 obtain ⟨A0,c0,rfl,h0⟩:=kTableO_open k
 exact kTableR_mk x h0.len ((h0.sl.mono fun _ _ hh=>by rcases hh with hh|hh <;>exact hh).to (fun k=>k) rfl)
theorem kTableH_conv {h:Heap}:∀ok cs x,kTableO.rep h ok cs x→kTableH.rep h ok cs x:=fun ok cs x k=>by
 obtain ⟨A0,c0,rfl,h0⟩:=kTableO_open k
 exact kTableH_mk x (h0.hollow rfl)
theorem kTableH_kept {w w':World} {e:TypeId} {b o:Nat} {us:List Value} (s:Stored w w' e b o us):Kept kTableH w w':=(Kept.iso (Kept.pair Kept.scalar (Kept.pair Kept.scalar (Kept.ow s))))
theorem kDevice_ro {h:Heap} {ok:Fp} {cs:List Value} {x:Device} (k:kDeviceO.rep h ok cs x):kDeviceR.rep h ok cs x:=by
 obtain ⟨A0,c0,A1,c1,rfl,h0,h1⟩:=kDeviceO_open k
 exact kDeviceR_mk x h0.len ((h0.sl.mono fun _ _ hh=>by rcases hh with hh|hh <;>exact hh).to (fun k=>k) rfl) h1.len ((h1.sl.mono fun _ _ hh=>by rcases hh with hh|hh <;>exact hh).to (fun k=>k) rfl)
theorem kDeviceH_conv {h:Heap}:∀ok cs x,kDeviceO.rep h ok cs x→kDeviceH.rep h ok cs x:=fun ok cs x k=>by
 obtain ⟨A0,c0,A1,c1,rfl,h0,h1⟩:=kDeviceO_open k
 exact kDeviceH_mk x (h0.hollow rfl) (h1.hollow rfl)
theorem kDeviceH_kept {w w':World} {e:TypeId} {b o:Nat} {us:List Value} (s:Stored w w' e b o us):Kept kDeviceH w w':=(Kept.iso (Kept.pair Kept.scalar (Kept.pair Kept.scalar (Kept.pair (Kept.ow s) (Kept.ow s)))))
theorem eqPtr (x y:Ptr) (w:World):(Op.equalIn 10000 43 (.agg [.int .i64 x.Dev,.int .i64 x.At].toArray) (.agg [.int .i64 y.Dev,.int .i64 y.At].toArray)).run Tryz.prog w=.ok (decide (x=y)) w:=by
 have e:decide (x=y)=((x.Dev==y.Dev)&&((x.At==y.At)&&true)):=by rw [Bool.eq_iff_iff];cases x;cases y;simp
 rw [e]
 exact run_equalFlat tk Tryz.underlying43 (by kernel_rfl) [.int .i64 x.Dev,.int .i64 x.At] [.int .i64 y.Dev,.int .i64 y.At] rfl w
theorem eqgPtr:Tryz.prog.eqGuardType Tryz.prog.depth 43=false:=by kernel_rfl
theorem eqEntry (x y:Entry) (w:World):(Op.equalIn 10000 66 (.agg [.int .i64 x.From,.int .i64 x.Len,.int .i64 x.Dev,.int .i64 x.To,.int .i64 x.Stale].toArray) (.agg [.int .i64 y.From,.int .i64 y.Len,.int .i64 y.Dev,.int .i64 y.To,.int .i64 y.Stale].toArray)).run Tryz.prog w=.ok (decide (x=y)) w:=by
 have e:decide (x=y)=((x.From==y.From)&&((x.Len==y.Len)&&((x.Dev==y.Dev)&&((x.To==y.To)&&((x.Stale==y.Stale)&&true))))):=by rw [Bool.eq_iff_iff];cases x;cases y;simp
 rw [e]
 exact run_equalFlat tk Tryz.underlying66 (by kernel_rfl) [.int .i64 x.From,.int .i64 x.Len,.int .i64 x.Dev,.int .i64 x.To,.int .i64 x.Stale] [.int .i64 y.From,.int .i64 y.Len,.int .i64 y.Dev,.int .i64 y.To,.int .i64 y.Stale] rfl w
theorem eqgEntry:Tryz.prog.eqGuardType Tryz.prog.depth 66=false:=by kernel_rfl
theorem eqSeg (x y:Seg) (w:World):(Op.equalIn 10000 105 (.agg [.int .i64 x.At,.int .i64 x.Len].toArray) (.agg [.int .i64 y.At,.int .i64 y.Len].toArray)).run Tryz.prog w=.ok (decide (x=y)) w:=by
 have e:decide (x=y)=((x.At==y.At)&&((x.Len==y.Len)&&true)):=by rw [Bool.eq_iff_iff];cases x;cases y;simp
 rw [e]
 exact run_equalFlat tk Tryz.underlying105 (by kernel_rfl) [.int .i64 x.At,.int .i64 x.Len] [.int .i64 y.At,.int .i64 y.Len] rfl w
theorem eqgSeg:Tryz.prog.eqGuardType Tryz.prog.depth 105=false:=by kernel_rfl
theorem eqPair (x y:Pair) (w:World):(Op.equalIn 10000 124 (.agg [.int .i64 x.From.Dev,.int .i64 x.From.At,.int .i64 x.To.Dev,.int .i64 x.To.At].toArray) (.agg [.int .i64 y.From.Dev,.int .i64 y.From.At,.int .i64 y.To.Dev,.int .i64 y.To.At].toArray)).run Tryz.prog w=.ok (decide (x=y)) w:=by
 have e:decide (x=y)=((((x.From.Dev==y.From.Dev)&&((x.From.At==y.From.At)&&true)))&&(((x.To.Dev==y.To.Dev)&&((x.To.At==y.To.At)&&true)))):=by rw [Bool.eq_iff_iff];rcases x with ⟨⟨_,_⟩,⟨_,_⟩⟩;rcases y with ⟨⟨_,_⟩,⟨_,_⟩⟩;simp [and_assoc]
 rw [e]
 exact run_equal2 tk Tryz.underlying124 (by kernel_rfl) (by decide) (by decide) rfl rfl rfl rfl [.int .i64 x.From.Dev,.int .i64 x.From.At,.int .i64 x.To.Dev,.int .i64 x.To.At] [.int .i64 y.From.Dev,.int .i64 y.From.At,.int .i64 y.To.Dev,.int .i64 y.To.At] (fun w=>run_equalFlatD tk Tryz.underlying43 (by kernel_rfl) [.int .i64 x.From.Dev,.int .i64 x.From.At] [.int .i64 y.From.Dev,.int .i64 y.From.At] rfl 9997 w) (fun w=>run_equalFlatD tk Tryz.underlying43 (by kernel_rfl) [.int .i64 x.To.Dev,.int .i64 x.To.At] [.int .i64 y.To.Dev,.int .i64 y.To.At] rfl 9997 w) w
theorem eqgPair:Tryz.prog.eqGuardType Tryz.prog.depth 124=false:=by kernel_rfl
theorem ent7:Enters Tryz.prog 7:=Enters.mk Tryz.func7 (by kernel_rfl) (by kernel_rfl)
theorem ent8:Enters Tryz.prog 8:=Enters.mk Tryz.func8 (by kernel_rfl) (by kernel_rfl)
theorem ent9:Enters Tryz.prog 9:=Enters.mk Tryz.func9 (by kernel_rfl) (by kernel_rfl)
theorem ent10:Enters Tryz.prog 10:=Enters.mk Tryz.func10 (by kernel_rfl) (by kernel_rfl)
theorem ent11:Enters Tryz.prog 11:=Enters.mk Tryz.func11 (by kernel_rfl) (by kernel_rfl)
theorem ent12:Enters Tryz.prog 12:=Enters.mk Tryz.func12 (by kernel_rfl) (by kernel_rfl)
theorem ent14:Enters Tryz.prog 14:=Enters.mk Tryz.func14 (by kernel_rfl) (by kernel_rfl)
theorem ent15:Enters Tryz.prog 15:=Enters.mk Tryz.func15 (by kernel_rfl) (by kernel_rfl)
theorem ent16:Enters Tryz.prog 16:=Enters.mk Tryz.func16 (by kernel_rfl) (by kernel_rfl)
theorem ent18:Enters Tryz.prog 18:=Enters.mk Tryz.func18 (by kernel_rfl) (by kernel_rfl)
theorem ent19:Enters Tryz.prog 19:=Enters.mk Tryz.func19 (by kernel_rfl) (by kernel_rfl)
theorem ent20:Enters Tryz.prog 20:=Enters.mk Tryz.func20 (by kernel_rfl) (by kernel_rfl)
theorem ent21:Enters Tryz.prog 21:=Enters.mk Tryz.func21 (by kernel_rfl) (by kernel_rfl)
theorem ent22:Enters Tryz.prog 22:=Enters.mk Tryz.func22 (by kernel_rfl) (by kernel_rfl)
theorem ent23:Enters Tryz.prog 23:=Enters.mk Tryz.func23 (by kernel_rfl) (by kernel_rfl)
theorem ent24:Enters Tryz.prog 24:=Enters.mk Tryz.func24 (by kernel_rfl) (by kernel_rfl)
theorem ent25:Enters Tryz.prog 25:=Enters.mk Tryz.func25 (by kernel_rfl) (by kernel_rfl)
theorem ent26:Enters Tryz.prog 26:=Enters.mk Tryz.func26 (by kernel_rfl) (by kernel_rfl)
theorem ent27:Enters Tryz.prog 27:=Enters.mk Tryz.func27 (by kernel_rfl) (by kernel_rfl)
theorem ent28:Enters Tryz.prog 28:=Enters.mk Tryz.func28 (by kernel_rfl) (by kernel_rfl)
theorem ent29:Enters Tryz.prog 29:=Enters.mk Tryz.func29 (by kernel_rfl) (by kernel_rfl)
theorem ent30:Enters Tryz.prog 30:=Enters.mk Tryz.func30 (by kernel_rfl) (by kernel_rfl)
theorem ent31:Enters Tryz.prog 31:=Enters.mk Tryz.func31 (by kernel_rfl) (by kernel_rfl)
theorem ent32:Enters Tryz.prog 32:=Enters.mk Tryz.func32 (by kernel_rfl) (by kernel_rfl)
theorem ent33:Enters Tryz.prog 33:=Enters.mk Tryz.func33 (by kernel_rfl) (by kernel_rfl)
theorem ent34:Enters Tryz.prog 34:=Enters.mk Tryz.func34 (by kernel_rfl) (by kernel_rfl)
theorem ent35:Enters Tryz.prog 35:=Enters.mk Tryz.func35 (by kernel_rfl) (by kernel_rfl)
theorem ent37:Enters Tryz.prog 37:=Enters.mk Tryz.func37 (by kernel_rfl) (by kernel_rfl)
theorem ent39:Enters Tryz.prog 39:=Enters.mk Tryz.func39 (by kernel_rfl) (by kernel_rfl)
theorem ent40:Enters Tryz.prog 40:=Enters.mk Tryz.func40 (by kernel_rfl) (by kernel_rfl)
theorem ent41:Enters Tryz.prog 41:=Enters.mk Tryz.func41 (by kernel_rfl) (by kernel_rfl)
theorem ent42:Enters Tryz.prog 42:=Enters.mk Tryz.func42 (by kernel_rfl) (by kernel_rfl)
theorem ent43:Enters Tryz.prog 43:=Enters.mk Tryz.func43 (by kernel_rfl) (by kernel_rfl)
theorem ent44:Enters Tryz.prog 44:=Enters.mk Tryz.func44 (by kernel_rfl) (by kernel_rfl)
theorem ent45:Enters Tryz.prog 45:=Enters.mk Tryz.func45 (by kernel_rfl) (by kernel_rfl)
theorem ent46:Enters Tryz.prog 46:=Enters.mk Tryz.func46 (by kernel_rfl) (by kernel_rfl)
theorem ent47:Enters Tryz.prog 47:=Enters.mk Tryz.func47 (by kernel_rfl) (by kernel_rfl)
theorem ent48:Enters Tryz.prog 48:=Enters.mk Tryz.func48 (by kernel_rfl) (by kernel_rfl)
theorem ent49:Enters Tryz.prog 49:=Enters.mk Tryz.func49 (by kernel_rfl) (by kernel_rfl)
theorem ent50:Enters Tryz.prog 50:=Enters.mk Tryz.func50 (by kernel_rfl) (by kernel_rfl)
theorem ent51:Enters Tryz.prog 51:=Enters.mk Tryz.func51 (by kernel_rfl) (by kernel_rfl)
theorem ent52:Enters Tryz.prog 52:=Enters.mk Tryz.func52 (by kernel_rfl) (by kernel_rfl)
theorem ent53:Enters Tryz.prog 53:=Enters.mk Tryz.func53 (by kernel_rfl) (by kernel_rfl)
theorem ent54:Enters Tryz.prog 54:=Enters.mk Tryz.func54 (by kernel_rfl) (by kernel_rfl)
theorem ent55:Enters Tryz.prog 55:=Enters.mk Tryz.func55 (by kernel_rfl) (by kernel_rfl)
theorem ent56:Enters Tryz.prog 56:=Enters.mk Tryz.func56 (by kernel_rfl) (by kernel_rfl)
theorem ent57:Enters Tryz.prog 57:=Enters.mk Tryz.func57 (by kernel_rfl) (by kernel_rfl)
theorem ent58:Enters Tryz.prog 58:=Enters.mk Tryz.func58 (by kernel_rfl) (by kernel_rfl)
theorem ent59:Enters Tryz.prog 59:=Enters.mk Tryz.func59 (by kernel_rfl) (by kernel_rfl)
theorem ent60:Enters Tryz.prog 60:=Enters.mk Tryz.func60 (by kernel_rfl) (by kernel_rfl)
theorem ent63:Enters Tryz.prog 63:=Enters.mk Tryz.func63 (by kernel_rfl) (by kernel_rfl)
theorem ent64:Enters Tryz.prog 64:=Enters.mk Tryz.func64 (by kernel_rfl) (by kernel_rfl)
theorem ent65:Enters Tryz.prog 65:=Enters.mk Tryz.func65 (by kernel_rfl) (by kernel_rfl)
theorem ent66:Enters Tryz.prog 66:=Enters.mk Tryz.func66 (by kernel_rfl) (by kernel_rfl)
theorem ent67:Enters Tryz.prog 67:=Enters.mk Tryz.func67 (by kernel_rfl) (by kernel_rfl)
theorem ent68:Enters Tryz.prog 68:=Enters.mk Tryz.func68 (by kernel_rfl) (by kernel_rfl)
theorem ent69:Enters Tryz.prog 69:=Enters.mk Tryz.func69 (by kernel_rfl) (by kernel_rfl)
theorem ent70:Enters Tryz.prog 70:=Enters.mk Tryz.func70 (by kernel_rfl) (by kernel_rfl)
theorem ent71:Enters Tryz.prog 71:=Enters.mk Tryz.func71 (by kernel_rfl) (by kernel_rfl)
theorem ent72:Enters Tryz.prog 72:=Enters.mk Tryz.func72 (by kernel_rfl) (by kernel_rfl)
theorem ent73:Enters Tryz.prog 73:=Enters.mk Tryz.func73 (by kernel_rfl) (by kernel_rfl)
theorem ent74:Enters Tryz.prog 74:=Enters.mk Tryz.func74 (by kernel_rfl) (by kernel_rfl)
theorem ent75:Enters Tryz.prog 75:=Enters.mk Tryz.func75 (by kernel_rfl) (by kernel_rfl)
theorem ent76:Enters Tryz.prog 76:=Enters.mk Tryz.func76 (by kernel_rfl) (by kernel_rfl)
theorem ent77:Enters Tryz.prog 77:=Enters.mk Tryz.func77 (by kernel_rfl) (by kernel_rfl)
theorem ent78:Enters Tryz.prog 78:=Enters.mk Tryz.func78 (by kernel_rfl) (by kernel_rfl)
theorem ent79:Enters Tryz.prog 79:=Enters.mk Tryz.func79 (by kernel_rfl) (by kernel_rfl)
theorem ent80:Enters Tryz.prog 80:=Enters.mk Tryz.func80 (by kernel_rfl) (by kernel_rfl)
theorem ent81:Enters Tryz.prog 81:=Enters.mk Tryz.func81 (by kernel_rfl) (by kernel_rfl)
theorem ent82:Enters Tryz.prog 82:=Enters.mk Tryz.func82 (by kernel_rfl) (by kernel_rfl)
theorem ent83:Enters Tryz.prog 83:=Enters.mk Tryz.func83 (by kernel_rfl) (by kernel_rfl)
theorem ent84:Enters Tryz.prog 84:=Enters.mk Tryz.func84 (by kernel_rfl) (by kernel_rfl)
theorem ent85:Enters Tryz.prog 85:=Enters.mk Tryz.func85 (by kernel_rfl) (by kernel_rfl)
theorem ent86:Enters Tryz.prog 86:=Enters.mk Tryz.func86 (by kernel_rfl) (by kernel_rfl)
theorem ent87:Enters Tryz.prog 87:=Enters.mk Tryz.func87 (by kernel_rfl) (by kernel_rfl)
theorem ent88:Enters Tryz.prog 88:=Enters.mk Tryz.func88 (by kernel_rfl) (by kernel_rfl)
theorem ent90:Enters Tryz.prog 90:=Enters.mk Tryz.func90 (by kernel_rfl) (by kernel_rfl)
theorem ent91:Enters Tryz.prog 91:=Enters.mk Tryz.func91 (by kernel_rfl) (by kernel_rfl)
theorem ent92:Enters Tryz.prog 92:=Enters.mk Tryz.func92 (by kernel_rfl) (by kernel_rfl)
theorem ent93:Enters Tryz.prog 93:=Enters.mk Tryz.func93 (by kernel_rfl) (by kernel_rfl)
theorem ent94:Enters Tryz.prog 94:=Enters.mk Tryz.func94 (by kernel_rfl) (by kernel_rfl)
theorem ent95:Enters Tryz.prog 95:=Enters.mk Tryz.func95 (by kernel_rfl) (by kernel_rfl)
theorem ent96:Enters Tryz.prog 96:=Enters.mk Tryz.func96 (by kernel_rfl) (by kernel_rfl)
theorem ent97:Enters Tryz.prog 97:=Enters.mk Tryz.func97 (by kernel_rfl) (by kernel_rfl)
theorem ent100:Enters Tryz.prog 100:=Enters.mk Tryz.func100 (by kernel_rfl) (by kernel_rfl)
theorem ent101:Enters Tryz.prog 101:=Enters.mk Tryz.func101 (by kernel_rfl) (by kernel_rfl)
theorem ent104:Enters Tryz.prog 104:=Enters.mk Tryz.func104 (by kernel_rfl) (by kernel_rfl)
theorem ent106:Enters Tryz.prog 106:=Enters.mk Tryz.func106 (by kernel_rfl) (by kernel_rfl)
theorem ent107:Enters Tryz.prog 107:=Enters.mk Tryz.func107 (by kernel_rfl) (by kernel_rfl)
theorem ent108:Enters Tryz.prog 108:=Enters.mk Tryz.func108 (by kernel_rfl) (by kernel_rfl)
theorem ent109:Enters Tryz.prog 109:=Enters.mk Tryz.func109 (by kernel_rfl) (by kernel_rfl)
theorem ent110:Enters Tryz.prog 110:=Enters.mk Tryz.func110 (by kernel_rfl) (by kernel_rfl)
theorem ent111:Enters Tryz.prog 111:=Enters.mk Tryz.func111 (by kernel_rfl) (by kernel_rfl)
theorem ent112:Enters Tryz.prog 112:=Enters.mk Tryz.func112 (by kernel_rfl) (by kernel_rfl)
theorem ent113:Enters Tryz.prog 113:=Enters.mk Tryz.func113 (by kernel_rfl) (by kernel_rfl)
theorem ent114:Enters Tryz.prog 114:=Enters.mk Tryz.func114 (by kernel_rfl) (by kernel_rfl)
theorem ent115:Enters Tryz.prog 115:=Enters.mk Tryz.func115 (by kernel_rfl) (by kernel_rfl)
theorem ent116:Enters Tryz.prog 116:=Enters.mk Tryz.func116 (by kernel_rfl) (by kernel_rfl)
theorem ent117:Enters Tryz.prog 117:=Enters.mk Tryz.func117 (by kernel_rfl) (by kernel_rfl)
theorem ent118:Enters Tryz.prog 118:=Enters.mk Tryz.func118 (by kernel_rfl) (by kernel_rfl)
theorem ent119:Enters Tryz.prog 119:=Enters.mk Tryz.func119 (by kernel_rfl) (by kernel_rfl)
theorem ent120:Enters Tryz.prog 120:=Enters.mk Tryz.func120 (by kernel_rfl) (by kernel_rfl)
theorem ent121:Enters Tryz.prog 121:=Enters.mk Tryz.func121 (by kernel_rfl) (by kernel_rfl)
theorem ent122:Enters Tryz.prog 122:=Enters.mk Tryz.func122 (by kernel_rfl) (by kernel_rfl)
theorem ent123:Enters Tryz.prog 123:=Enters.mk Tryz.func123 (by kernel_rfl) (by kernel_rfl)
theorem ent124:Enters Tryz.prog 124:=Enters.mk Tryz.func124 (by kernel_rfl) (by kernel_rfl)
theorem ent126:Enters Tryz.prog 126:=Enters.mk Tryz.func126 (by kernel_rfl) (by kernel_rfl)
theorem ent127:Enters Tryz.prog 127:=Enters.mk Tryz.func127 (by kernel_rfl) (by kernel_rfl)
theorem ent128:Enters Tryz.prog 128:=Enters.mk Tryz.func128 (by kernel_rfl) (by kernel_rfl)
theorem ent130:Enters Tryz.prog 130:=Enters.mk Tryz.func130 (by kernel_rfl) (by kernel_rfl)
theorem ent135:Enters Tryz.prog 135:=Enters.mk Tryz.func135 (by kernel_rfl) (by kernel_rfl)
theorem ent136:Enters Tryz.prog 136:=Enters.mk Tryz.func136 (by kernel_rfl) (by kernel_rfl)
theorem ent137:Enters Tryz.prog 137:=Enters.mk Tryz.func137 (by kernel_rfl) (by kernel_rfl)
theorem ent138:Enters Tryz.prog 138:=Enters.mk Tryz.func138 (by kernel_rfl) (by kernel_rfl)
theorem ent139:Enters Tryz.prog 139:=Enters.mk Tryz.func139 (by kernel_rfl) (by kernel_rfl)
theorem ent140:Enters Tryz.prog 140:=Enters.mk Tryz.func140 (by kernel_rfl) (by kernel_rfl)
theorem ent141:Enters Tryz.prog 141:=Enters.mk Tryz.func141 (by kernel_rfl) (by kernel_rfl)
theorem ent142:Enters Tryz.prog 142:=Enters.mk Tryz.func142 (by kernel_rfl) (by kernel_rfl)
theorem ent143:Enters Tryz.prog 143:=Enters.mk Tryz.func143 (by kernel_rfl) (by kernel_rfl)
theorem ent144:Enters Tryz.prog 144:=Enters.mk Tryz.func144 (by kernel_rfl) (by kernel_rfl)
theorem ent145:Enters Tryz.prog 145:=Enters.mk Tryz.func145 (by kernel_rfl) (by kernel_rfl)
theorem ent148:Enters Tryz.prog 148:=Enters.mk Tryz.func148 (by kernel_rfl) (by kernel_rfl)
theorem ent150:Enters Tryz.prog 150:=Enters.mk Tryz.func150 (by kernel_rfl) (by kernel_rfl)
theorem ent151:Enters Tryz.prog 151:=Enters.mk Tryz.func151 (by kernel_rfl) (by kernel_rfl)
theorem ent152:Enters Tryz.prog 152:=Enters.mk Tryz.func152 (by kernel_rfl) (by kernel_rfl)
theorem ent153:Enters Tryz.prog 153:=Enters.mk Tryz.func153 (by kernel_rfl) (by kernel_rfl)
theorem ent154:Enters Tryz.prog 154:=Enters.mk Tryz.func154 (by kernel_rfl) (by kernel_rfl)
theorem ent155:Enters Tryz.prog 155:=Enters.mk Tryz.func155 (by kernel_rfl) (by kernel_rfl)
theorem ent157:Enters Tryz.prog 157:=Enters.mk Tryz.func157 (by kernel_rfl) (by kernel_rfl)
end Go.Proofs.YtnaajldlloglkaaGreatDoor.W
