/- The rows of MoveTidies: the argument opened. -/
import Derived.Test.YtnaajldlloglkaaGreatDoorMoveW
import Derived.Test.YtnaajldlloglkaaGreatDoorMoveP
import Derived.Test.YtnaajldlloglkaaGreatDoorRows
import Derived.Test.YtnaajldlloglkaaGreatDoorL2
import Derived.ProofKit
import Derived.LaidMore
import Derived.OpenShut
import Derived.ChangeOld
import Derived.Stop.Joined
set_option linter.unusedVariables false
set_option linter.unusedSimpArgs false
namespace Go.Proofs.YtnaajldlloglkaaGreatDoor.W
open Go.H Go.Proofs Go.ChangeShapes Go.WideShapes Go.ChangeAt Go.WideElems Go.RowKit
set_option maxRecDepth 100000
def gI (n:Int):Prop:=(Lit.int .i64 n).wf=true
def gL {α:Type} (e:TypeId) (g:α→Prop) (xs:List α):Prop:=xs.length*Tryz.prog.bytesOf e≤reachBytes∧∀x∈xs,g x
theorem gI_iff {n:Int} (h:gI n): -9223372036854775808≤n∧n<9223372036854775808:=by
 have h1:(decide (IntKind.i64.min≤n)&&decide (n≤IntKind.i64.max))=true:=h
 simp only [Bool.and_eq_true,decide_eq_true_eq] at h1
 have e1:IntKind.i64.min= -9223372036854775808:=by decide
 have e2:IntKind.i64.max=9223372036854775807:=by decide
 omega
theorem opnI:Opn Tryz.prog 3 (Kd.int .i64) gI:=Opn.int Tryz.underlying3 (by kernel_rfl)
def gE (s:Entry):Prop:=gI s.From∧gI s.Len∧gI s.Dev∧gI s.To∧gI s.Stale
theorem opnEntry:Opn Tryz.prog 66 kEntry gE:=Opn.struct (good:=(fun p:Int×Int×Int×Int×Int=>gI p.1∧gI p.2.1∧gI p.2.2.1∧gI p.2.2.2.1∧gI p.2.2.2.2)) Tryz.underlying66 (n:=5) (by kernel_rfl) rfl (OpnF.cons (g1:=gI) (g2:=(fun p:Int×Int×Int×Int=>gI p.1∧gI p.2.1∧gI p.2.2.1∧gI p.2.2.2)) opnI rfl (Nat.le_of_ble_eq_true rfl) (OpnF.cons (g1:=gI) (g2:=(fun p:Int×Int×Int=>gI p.1∧gI p.2.1∧gI p.2.2)) opnI rfl (Nat.le_of_ble_eq_true rfl) (OpnF.cons (g1:=gI) (g2:=(fun p:Int×Int=>gI p.1∧gI p.2)) opnI rfl (Nat.le_of_ble_eq_true rfl) (OpnF.cons (g1:=gI) (g2:=gI) opnI rfl (Nat.le_of_ble_eq_true rfl) (OpnF.one opnI rfl rfl))))) (fun x:Entry=>(x.From,x.Len,x.Dev,x.To,x.Stale)) (fun p=>⟨p.1,p.2.1,p.2.2.1,p.2.2.2.1,p.2.2.2.2⟩) (fun _=>rfl)
theorem opnEntries:Opn Tryz.prog 24 (Kd.sl kEntry) (gL 66 gE):=Opn.sl Tryz.underlying24 (by kernel_rfl) opnEntry
def gT (s:Table):Prop:=gI s.Dev∧gI s.Size∧(gL 66 gE) s.List_
theorem opnTable:Opn Tryz.prog 26 kTableR gT:=Opn.struct (good:=(fun p:Int×Int×(List Entry)=>gI p.1∧gI p.2.1∧(gL 66 gE) p.2.2)) Tryz.underlying26 (n:=3) (by kernel_rfl) rfl (OpnF.cons (g1:=gI) (g2:=(fun p:Int×(List Entry)=>gI p.1∧(gL 66 gE) p.2)) opnI rfl (Nat.le_of_ble_eq_true rfl) (OpnF.cons (g1:=gI) (g2:=(gL 66 gE)) opnI rfl (Nat.le_of_ble_eq_true rfl) (OpnF.one opnEntries rfl rfl))) (fun x:Table=>(x.Dev,x.Size,x.List_)) (fun p=>⟨p.1,p.2.1,p.2.2⟩) (fun _=>rfl)
theorem opnTables:Opn Tryz.prog 23 (Kd.sl kTableR) (gL 26 gT):=Opn.sl Tryz.underlying23 (by kernel_rfl) opnTable
def gP (s:Ptr):Prop:=gI s.Dev∧gI s.At
theorem opnPtr:Opn Tryz.prog 43 kPtr gP:=Opn.struct (good:=(fun p:Int×Int=>gI p.1∧gI p.2)) Tryz.underlying43 (n:=2) (by kernel_rfl) rfl (OpnF.cons (g1:=gI) (g2:=gI) opnI rfl (Nat.le_of_ble_eq_true rfl) (OpnF.one opnI rfl rfl)) (fun x:Ptr=>(x.Dev,x.At)) (fun p=>⟨p.1,p.2⟩) (fun _=>rfl)
theorem opnPtrs:Opn Tryz.prog 37 (Kd.sl kPtr) (gL 43 gP):=Opn.sl Tryz.underlying37 (by kernel_rfl) opnPtr
def gSg (s:Seg):Prop:=gI s.At∧gI s.Len
theorem opnSeg:Opn Tryz.prog 105 kSeg gSg:=Opn.struct (good:=(fun p:Int×Int=>gI p.1∧gI p.2)) Tryz.underlying105 (n:=2) (by kernel_rfl) rfl (OpnF.cons (g1:=gI) (g2:=gI) opnI rfl (Nat.le_of_ble_eq_true rfl) (OpnF.one opnI rfl rfl)) (fun x:Seg=>(x.At,x.Len)) (fun p=>⟨p.1,p.2⟩) (fun _=>rfl)
theorem opnSegs:Opn Tryz.prog 38 (Kd.sl kSeg) (gL 105 gSg):=Opn.sl Tryz.underlying38 (by kernel_rfl) opnSeg
def gD (s:Device):Prop:=gI s.ID∧gI s.Size∧(gL 105 gSg) s.Free∧(gL 105 gSg) s.Late
theorem opnDevice:Opn Tryz.prog 40 kDeviceR gD:=Opn.struct (good:=(fun p:Int×Int×(List Seg)×(List Seg)=>gI p.1∧gI p.2.1∧(gL 105 gSg) p.2.2.1∧(gL 105 gSg) p.2.2.2)) Tryz.underlying40 (n:=4) (by kernel_rfl) rfl (OpnF.cons (g1:=gI) (g2:=(fun p:Int×(List Seg)×(List Seg)=>gI p.1∧(gL 105 gSg) p.2.1∧(gL 105 gSg) p.2.2)) opnI rfl (Nat.le_of_ble_eq_true rfl) (OpnF.cons (g1:=gI) (g2:=(fun p:(List Seg)×(List Seg)=>(gL 105 gSg) p.1∧(gL 105 gSg) p.2)) opnI rfl (Nat.le_of_ble_eq_true rfl) (OpnF.cons (g1:=(gL 105 gSg)) (g2:=(gL 105 gSg)) opnSegs rfl (Nat.le_of_ble_eq_true rfl) (OpnF.one opnSegs rfl rfl)))) (fun x:Device=>(x.ID,x.Size,x.Free,x.Late)) (fun p=>⟨p.1,p.2.1,p.2.2.1,p.2.2.2⟩) (fun _=>rfl)
theorem opnDevices:Opn Tryz.prog 22 (Kd.sl kDeviceR) (gL 40 gD):=Opn.sl Tryz.underlying22 (by kernel_rfl) opnDevice
def gJ (s:Job):Prop:=gI s.Dev∧gI s.At∧gT s.Table
theorem opnJob:Opn Tryz.prog 28 kJobR gJ:=Opn.struct (good:=(fun p:Int×Int×W.Table=>gI p.1∧gI p.2.1∧gT p.2.2)) Tryz.underlying28 (n:=5) (by kernel_rfl) rfl (OpnF.cons (g1:=gI) (g2:=(fun p:Int×W.Table=>gI p.1∧gT p.2)) opnI rfl (Nat.le_of_ble_eq_true rfl) (OpnF.cons (g1:=gI) (g2:=gT) opnI rfl (Nat.le_of_ble_eq_true rfl) (OpnF.one opnTable rfl rfl))) (fun x:Job=>(x.Dev,x.At,x.Table)) (fun p=>⟨p.1,p.2.1,p.2.2⟩) (fun _=>rfl)
def gPl (s:Pool):Prop:=(gL 40 gD) s.Devices∧(gL 26 gT) s.Tables∧gJ s.Job∧gI s.Next
theorem opnPool:Opn Tryz.prog 30 kPoolR gPl:=Opn.struct (good:=(fun p:(List Device)×(List W.Table)×W.Job×Int=>(gL 40 gD) p.1∧(gL 26 gT) p.2.1∧gJ p.2.2.1∧gI p.2.2.2)) Tryz.underlying30 (n:=8) (by kernel_rfl) rfl (OpnF.cons (g1:=(gL 40 gD)) (g2:=(fun p:(List W.Table)×W.Job×Int=>(gL 26 gT) p.1∧gJ p.2.1∧gI p.2.2)) opnDevices rfl (Nat.le_of_ble_eq_true rfl) (OpnF.cons (g1:=(gL 26 gT)) (g2:=(fun p:W.Job×Int=>gJ p.1∧gI p.2)) opnTables rfl (Nat.le_of_ble_eq_true rfl) (OpnF.cons (g1:=gJ) (g2:=gI) opnJob rfl (Nat.le_of_ble_eq_true rfl) (OpnF.one opnI rfl rfl)))) (fun x:Pool=>(x.Devices,x.Tables,x.Job,x.Next)) (fun p=>⟨p.1,p.2.1,p.2.2.1,p.2.2.2⟩) (fun _=>rfl)
def gA (s:Act):Prop:=gI s.Do∧gI s.N∧(gL 43 gP) s.Q
theorem opnAct:Opn Tryz.prog 60 kActR gA:=Opn.struct (good:=(fun p:Int×Int×(List Ptr)=>gI p.1∧gI p.2.1∧(gL 43 gP) p.2.2)) Tryz.underlying60 (n:=3) (by kernel_rfl) rfl (OpnF.cons (g1:=gI) (g2:=(fun p:Int×(List Ptr)=>gI p.1∧(gL 43 gP) p.2)) opnI rfl (Nat.le_of_ble_eq_true rfl) (OpnF.cons (g1:=gI) (g2:=(gL 43 gP)) opnI rfl (Nat.le_of_ble_eq_true rfl) (OpnF.one opnPtrs rfl rfl))) (fun x:Act=>(x.Do,x.N,x.Q)) (fun p=>⟨p.1,p.2.1,p.2.2⟩) (fun _=>rfl)
theorem opnActs:Opn Tryz.prog 31 (Kd.sl kActR) (gL 60 gA):=Opn.sl Tryz.underlying31 (by kernel_rfl) opnAct
def gS (s:Script):Prop:=gPl s.P∧(gL 60 gA) s.A
theorem opnScript:Opn Tryz.prog 33 kScriptR gS:=Opn.struct (good:=(fun p:Pool×(List Act)=>gPl p.1∧(gL 60 gA) p.2)) Tryz.underlying33 (n:=9) (by kernel_rfl) rfl (OpnF.cons (g1:=gPl) (g2:=(gL 60 gA)) opnPool rfl (Nat.le_of_ble_eq_true rfl) (OpnF.one opnActs rfl rfl)) (fun x:Script=>(x.P,x.A)) (fun p=>⟨p.1,p.2⟩) (fun _=>rfl)
theorem open_script {H:Type} {enc:TypeId×Value→H} {W:World} {base:Nat} {v:Value} {d:DataW H} {ps:List MemPlace} (hv:Value.okWide Tryz.prog W .any base 33 v) (h:DataW.Trod enc Tryz.prog W 0 (fun _=>true) true 33 v d ps) (hw:(d.weights Tryz.prog 33).all (· ≤reachBytes)=true):
 ∃(p:Script) (A1:Option Addr) (c1:Nat) (A2:Option Addr) (c2:Nat) (A3:Option Addr) (c3:Nat) (A4:Option Addr) (c4:Nat),v=.agg #[.slice A1 p.P.Devices.length c1,.slice A2 p.P.Tables.length c2,.int .i64 p.P.Job.Dev,.int .i64 p.P.Job.At,.int .i64 p.P.Job.Table.Dev,.int .i64 p.P.Job.Table.Size,.slice A3 p.P.Job.Table.List_.length c3,.int .i64 p.P.Next,.slice A4 p.A.length c4]∧
  p.P.Devices.length≤c1∧Sl kDeviceR W.heap okAll A1 p.P.Devices∧p.P.Tables.length≤c2∧Sl kTableR W.heap okAll A2 p.P.Tables∧p.P.Job.Table.List_.length≤c3∧Sl kEntry W.heap okAll A3 p.P.Job.Table.List_∧p.A.length≤c4∧Sl kActR W.heap okAll A4 p.A∧gS p:=by
 obtain ⟨cs,rfl,_⟩:=okWide_struct Tryz.underlying33 hv
 obtain ⟨fuel,hf⟩:=h
 obtain ⟨p,hr,hg⟩:=opnScript.open_ hf hw
 obtain ⟨A1,c1,A2,c2,A3,c3,A4,c4,e,h1,h2,h3,h4,h5,h6,h7,h8⟩:=kScriptR_open hr
 refine ⟨p,A1,c1,A2,c2,A3,c3,A4,c4,?_,h1,h2,h3,h4,h5,h6,h7,h8,hg⟩
 rw [←Array.toArray_toList (xs:=cs)]
 congr 1
 exact congrArg List.toArray e
theorem gS.sized {p:Script} (h:gS p):Sized p:=by
 have e1:Tryz.prog.bytesOf 40=64:=by kernel_rfl
 have e2:Tryz.prog.bytesOf 26=40:=by kernel_rfl
 have e3:Tryz.prog.bytesOf 66=40:=by kernel_rfl
 have e4:Tryz.prog.bytesOf 105=16:=by kernel_rfl
 have e5:Tryz.prog.bytesOf 60=40:=by kernel_rfl
 have e6:Tryz.prog.bytesOf 43=16:=by kernel_rfl
 obtain ⟨⟨⟨d1,d2⟩,⟨t1,t2⟩,⟨j1,j2,j3,j4,j5,j6⟩,_⟩,a1,a2⟩:=h
 rw [e1] at d1
 rw [e2] at t1
 rw [e3] at j5
 rw [e5] at a1
 simp only [reachBytes] at d1 t1 j5 a1
 refine ⟨by omega,fun d hd=>?_,by omega,fun t ht=>?_,by omega,gI_iff j1,by omega,fun a ha=>?_⟩
 ·obtain ⟨_,_,⟨f1,_⟩,l1,_⟩:=d2 d hd
  rw [e4] at f1 l1
  simp only [reachBytes] at f1 l1
  exact ⟨by omega,by omega⟩
 ·obtain ⟨_,_,f1,_⟩:=t2 t ht
  rw [e3] at f1
  simp only [reachBytes] at f1
  omega
 ·obtain ⟨_,n,f1,_⟩:=a2 a ha
  rw [e6] at f1
  simp only [reachBytes] at f1
  exact ⟨by omega,gI_iff n⟩
theorem MoveTidies_true {p:Script} (h:gS p):∃k,l10_MoveTidies.f k p=some true:=MoveTidies_plain h.sized
theorem laid_eq:(Rows.laid_math_bits_deBruijn64tab:DataW Unit)=.agg ((List.range 64).map fun i=>.lit (.int .u8 (tz i))):=by rfl
theorem gTab:Tryz.prog.globalNamed "math/bits.deBruijn64tab" =some 0:=by kernel_rfl
theorem tTab:(Tryz.prog.globals[0]?).map (·.type)=some 175:=by kernel_rfl
theorem glob_of_laid {W:World} (h:laidMetH Tryz.prog [("math/bits.deBruijn64tab",Rows.laid_math_bits_deBruijn64tab)] W):∃gT,Box W.heap 0 gT (arrI .u8 64 tz):=by
 rw [MakeChecks.laidMetH_plain _ _ _ (by kernel_rfl)] at h
 obtain ⟨ps,⟨g0,t0,cs0,f0,p0,q0,hg0,ht0,hv0,hd0,hq,hps⟩,_,hc⟩:=h
 obtain rfl:=Option.some.inj (gTab.symm.trans hg0)
 obtain rfl:=Option.some.inj (tTab.symm.trans ht0)
 have c5:Tryz.prog.cellsOf 5=1:=by kernel_rfl
 have c175:Tryz.prog.cellsOf 175=64:=by kernel_rfl
 obtain ⟨xs,m1,_,hx1,hlen,hn,hel⟩:=DataW.trod_array Tryz.underlying175 hd0
 rw [laid_eq] at hx1
 simp only [Prod.mk.injEq,DataW.agg.injEq] at hx1
 rw [c175] at hlen
 have hcs:cs0.toList=arrI .u8 64 tz:=by
  apply List.ext_getElem?
  intro i
  by_cases hi:i<64
  ·rw [arrF_get hi]
   have h1:=hel i hi
   rw [c5,Nat.mul_one,List.getElem?_eq_getElem (show i<xs.length by omega)] at h1
   obtain ⟨k,e1,e2,_⟩:=DataW.trod_int Tryz.underlying5 h1
   have e3:(xs.map (·.1))[i]?=some (.lit (.int .u8 k)):=by rw [List.getElem?_map,List.getElem?_eq_getElem (show i<xs.length by omega),e2];rfl
   rw [←hx1.1,List.getElem?_map,List.getElem?_range hi] at e3
   simp only [Option.map_some,Option.some.injEq,DataW.lit.injEq,Lit.int.injEq,true_and] at e3
   subst e3
   have e4:((cs0.toList.drop i).take 1)[0]?=some (.int .u8 (tz i)):=by rw [e1];rfl
   rw [List.getElem?_take,List.getElem?_drop] at e4
   simpa using e4
  ·rw [List.getElem?_eq_none (by omega),List.getElem?_eq_none (by rw [arrF_len];omega)]
 have hv1:=hv0
 simp only [World.var?,gTab,Option.bind_some] at hv1
 split at hv1
 ·rename_i cs T fr hb
  cases hv1
  obtain ⟨⟨c,t,e⟩,_⟩:=hc 0 0 (by
   rw [hps]
   simp only [List.append_assoc,List.mem_append]
   left
   simp only [MemPlace.row,List.mem_map,List.mem_range]
   have hsz:cs0.size=64:=by rw [←Array.length_toList,hlen]
   exact ⟨0,by omega,rfl⟩)
  rw [hb] at e
  cases e
  exact ⟨T,by unfold Box;rw [hb,←hcs,Array.toArray_toList]⟩
 ·cases hv1
end Go.Proofs.YtnaajldlloglkaaGreatDoor.W
