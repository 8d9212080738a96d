/- MoveTidies: whatever the input, the law tells true, and the input reads as it did; the table of math/bits is tied to the program's text. -/
import Derived.Test.YtnaajldlloglkaaGreatDoorMoveR
import Derived.Test.YtnaajldlloglkaaGreatDoorMoveW8
import Derived.Test.YtnaajldlloglkaaGreatDoorCards
import Derived.Test.YtnaajldlloglkaaGreatDoorTie
import Derived.SevenTiedAt
set_option linter.unusedVariables false
set_option linter.unusedSimpArgs false
namespace Go.Proofs.YtnaajldlloglkaaGreatDoor.moveTidies
open Go.H Go.Proofs Go.Proofs.YtnaajldlloglkaaGreatDoor.W Go.ChangeShapes Go.WideShapes Go.ChangeAt Go.WideElems Go.RowKit
theorem own:ownKnob Tryz.prog.godebug=none:=by kernel_rfl
theorem laidOut:laidOutB Tryz.prog=true:=by kernel_rfl
abbrev lay:List (String×DataW Unit):=[("math/bits.deBruijn64tab",Rows.laid_math_bits_deBruijn64tab)]
theorem door_met (os:Os) (args:Array Value):laidMetH Tryz.prog lay ((World.doorLaid Tryz.prog 400 os).forCall (fun _ _=>0) ⟨#[],args,[]⟩).memory:=
 laidMetH_of_parts3 (fuel:=8) (laidMet_of_run' 8 (by kernel_rfl) (by kernel_rfl)) (by kernel_rfl) (by kernel_rfl)
set_option maxRecDepth 100000 in
theorem lifted (os:Os) (started:os.Started) (H:Type) (enc:TypeId×Value→H):
 ReturnsInHanded {} Tryz.checked os 6 .any (fun w args=>(Rows.moveTidiesSpec.pre enc Tryz.prog Tryz.f6 [] false w args∧laidMetH Tryz.prog lay w)∧sizedMet enc Tryz.prog Tryz.f6 (OpenSpec.ofChange Rows.moveTidiesSpec) false w args)
  (Rows.moveTidiesSpec.post enc Tryz.prog Tryz.f6 false true false false):=by
 refine returnsInHanded_of_change_and (C:=Tryz.checked) (X:=fun w _=>laidMetH Tryz.prog lay w) (fun _ _ _ hh h=>h.of_heap hh) own started (by kernel_rfl) Tryz.func6
  (ChangeSpec.witness_shaped (enc:=enc) (C:=Tryz.checked) (os:=os) (X:=fun w _=>laidMetH Tryz.prog lay w) false (World.doorLaid Tryz.prog 400 os) #[.agg #[.slice none 0 0,.slice none 0 0,.int .i64 0,.int .i64 0,.int .i64 0,.int .i64 0,.slice none 0 0,.int .i64 0,.slice none 0 0]] 8 rfl (World.shaped_of_RefB (by kernel_rfl) (by kernel_rfl)) (by kernel_rfl) (by kernel_rfl) (by kernel_rfl) (door_met os _)) ?_
 intro W base args ds gs before hval0 hW _ hsz0 hL _
 have hsz:(DataW.weightsEach Tryz.prog (Tryz.f6.params.toList++Rows.moveTidiesSpec.plain.varTypes Tryz.prog) (ds++gs)).all (· ≤reachBytes)=true:=hsz0
 have hval:∀(j:Nat) t v,Tryz.f6.params[j]?=some t→args[j]?=some v→Value.okWide Tryz.prog W .any base t v:=hval0
 have hW':=hW
 obtain ⟨p,q,hA0,hV,rfl,hfz,hnd⟩:=hW
 have hA:DataW.TrodAll enc Tryz.prog W 0 (fun _=>true) true Tryz.f6.params.toList args.toList ds p:=hA0
 rw [Tryz.params6] at hA hval hsz
 obtain ⟨v0,d0,hargs,rfl,h0⟩:=trodAll_one hA
 subst hargs
 obtain ⟨rfl,rfl⟩:=trodVars_none hV
 have hw0:(d0.weights Tryz.prog 33).all (· ≤reachBytes)=true:=by
  have h1:(DataW.weightsEach Tryz.prog (33::[]) (d0::[])).all (· ≤reachBytes)=true:=hsz
  simpa [DataW.weightsEach] using h1
 obtain ⟨x,A1,c1,A2,c2,A3,c3,A4,c4,rfl,l1,s1,l2,s2,l3,s3,l4,s4,hs⟩:=open_script (hval 0 33 v0 rfl rfl) h0 hw0
 obtain ⟨gT,hG⟩:=glob_of_laid hL
 obtain ⟨k,hk⟩:=MoveTidies_true hs
 have lt0:∀y∈p,y.block<W.heap.size:=by obtain ⟨m,hm⟩:=h0;exact DataW.trod_lt m _ _ _ hm
 refine (l10_MoveTidies.calls hk s1 l1 s2 l2 s3 l3 s4 l4 hG).mono fun e W' ⟨he,hx⟩=>?_
 have bel:=hx.below
 subst he
 exact ⟨_,rfl,_,_,_,[],_,[],hW',trodAll_mk1 (shut_bool Tryz.underlying4 _),trodAll_cons_mk (Below.trod laidOut (by kernel_rfl) (of_decide_eq_true (by kernel_rfl)) h0 bel lt0) trodAll_mk0,rfl,bel.frame _,fun h=>by cases h⟩
theorem over:Rows.MoveTidiesSaid:=
 OpenClaim.holds_of_wide 6 Tryz.f6 rfl rfl rfl rfl rfl rfl rfl ⟨rfl,rfl,rfl,rfl,rfl⟩ rfl rfl rfl rfl rfl (by kernel_rfl) Tryz.func6 (by kernel_rfl)
  (of_decide_eq_true (by kernel_rfl)) (by unfold Func.isWrapper;first|(rw [if_pos (by decide +kernel)];kernel_rfl)|(rw [if_neg (by decide +kernel)];exact ⟨rfl,rfl⟩))
  (fun os started H enc _=>lifted os started H enc)
theorem card:Rows.MoveTidiesCardSaid:=
 Claim7.holds_tied_plain_at .later [] [.data] true (true, "c5bfa0a7ac9ab898f0e5b08e3d66d9115d29333d5fe283460c604d326833981f") false
  over (fun _ h=>by cases h) (by kernel_rfl) (fun _ h=>by cases h) moveTidies_row_tie rfl ⟨rfl,rfl⟩ (by kernel_rfl) rfl
  (fun f fn hf hfn=>by
   obtain rfl:f=6:=Option.some.inj ((show Tryz.prog.funcNamed "hermitage/hermitagelaw10.MoveTidies" =some 6 by kernel_rfl).symm.trans hf) |>.symm
   obtain rfl:fn=Tryz.f6:=(Option.some.inj (Tryz.func6.symm.trans hfn)).symm
   exact ⟨by kernel_rfl,fun j t ht=>by
    rw [Tryz.params6] at ht
    have hm:t∈[33]:=by simpa using Array.mem_of_getElem? ht
    have hall:([33].all fun u=>!Tryz.prog.wantsStandIn u)=true:=by kernel_rfl
    exact (show Tryz.prog.wantsStandIn t=false by simpa using List.all_eq_true.1 hall t hm)⟩)
  (by kernel_rfl)
#print axioms card
end Go.Proofs.YtnaajldlloglkaaGreatDoor.moveTidies
namespace Go.Proofs.YtnaajldlloglkaaGreatDoor
theorem moveTidies_card:Rows.MoveTidiesCardSaid:=moveTidies.card
end Go.Proofs.YtnaajldlloglkaaGreatDoor
