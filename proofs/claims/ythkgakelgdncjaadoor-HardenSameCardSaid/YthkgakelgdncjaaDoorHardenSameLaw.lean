/- The statement 'Rows.HardenSameSaid': for every input the law firewall/firewalllaw23.HardenSame returns true, and its arguments read as before. Conditions: none. (The walk is HardenSame_walk; here is the frame, written by a program of mine after the guide's way.) -/
import Derived.Test.YthkgakelgdncjaaDoorRows
import Derived.Test.YthkgakelgdncjaaDoorTie
import Derived.Test.YthkgakelgdncjaaDoorCards
import Derived.Test.YthkgakelgdncjaaDoorVf
import Derived.Test.YthkgakelgdncjaaDoorOm
import Derived.ChangeOld
import Derived.Below
import Derived.ProofKit
import Derived.LaidMore
import Derived.OpenShut
import Derived.Stop.Joined
import Derived.SevenTiedAt
namespace Go.Proofs.YthkgakelgdncjaaDoor.hardenSameLaw
open Go.Ep Go.ChangeShapes Go.WideShapes Go.ChangeAt Go.RowKit
open Go.ChangeMaps (open_string shut_string)
set_option linter.unusedVariables false
theorem own:ownKnob Tryd.prog.godebug=none:=by kernel_rfl
theorem laidOut:laidOutB Tryd.prog=true:=by kernel_rfl
theorem door_met (os:Os) (args:Array Value):laidMetH Tryd.prog Rows.hardenSameRow.laid ((World.doorLaid Tryd.prog 14 os).forCall (fun _ _=>0) ⟨#[],args,[]⟩).memory:=
 laidMetH_of_parts3 (fuel:=8) (laidMet_of_run' 8 (by kernel_rfl) (by kernel_rfl)) (by kernel_rfl) (by kernel_rfl)
set_option maxRecDepth 100000 in
theorem lifted (os:Os) (started:os.Started) (H:Type) (enc:TypeId×Value→H) :
 ReturnsInHanded {} Tryd.checked os 4 .any (fun w args=>(Rows.hardenSameSpec.pre enc Tryd.prog Tryd.f4 [] false w args∧laidMetH Tryd.prog Rows.hardenSameRow.laid w)∧sizedMet enc Tryd.prog Tryd.f4 (OpenSpec.ofChange Rows.hardenSameSpec) false w args)
  (Rows.hardenSameSpec.post enc Tryd.prog Tryd.f4 false true false false):=by
 refine returnsInHanded_of_change_and (C:=Tryd.checked) (X:=fun w _=>laidMetH Tryd.prog Rows.hardenSameRow.laid w) (fun _ _ _ hh h=>h.of_heap hh) own started (by kernel_rfl) Tryd.func4
  (ChangeSpec.witness_shaped (enc:=enc) (C:=Tryd.checked) (os:=os) (X:=fun w _=>laidMetH Tryd.prog Rows.hardenSameRow.laid w) false (World.doorLaid Tryd.prog 14 os) #[.slice none 0 0,.slice none 0 0,.agg #[.string ⟨#[]⟩,.int .u64 0,.slice none 0 0,.slice none 0 0]] 8 rfl (World.shaped_of_RefB (by kernel_rfl) (by kernel_rfl)) (by kernel_rfl) (by kernel_rfl) (by kernel_rfl) (door_met os _)) ?_
 intro W base args ds gs before hval0 hW _ _ hL _
 have hval:∀ (j:Nat) t v,Tryd.f4.params[j]? =some t→args[j]? =some v→Value.okWide Tryd.prog W .any base t v:=hval0
 have hW':=hW
 obtain ⟨p,q,hA0,hV,rfl,hfz,hnd⟩:=hW
 have hA:DataW.TrodAll enc Tryd.prog W 0 (fun _=>true) true Tryd.f4.params.toList args.toList ds p:=hA0
 rw [Tryd.params4] at hA hval
 obtain ⟨v0,vs0,d0,ds0,p0,q0,hargs,rfl,rfl,h0,r0⟩:=trodAll_cons hA
 obtain ⟨v1,vs1,d1,ds1,p1,q1,rfl,rfl,rfl,h1,r1⟩:=trodAll_cons r0
 obtain ⟨v2,vs2,d2,ds2,p2,q2,rfl,rfl,rfl,h2,r2⟩:=trodAll_cons r1
 obtain ⟨rfl,rfl,rfl⟩:=trodAll_nil r2
 obtain rfl:args=#[v0,v1,v2]:=by cases args;simp_all
 obtain ⟨rfl,rfl⟩:=trodVars_none hV
 have k0:=h0
 have lt0:∀ x∈p0,x.block<W.heap.size:=by obtain ⟨m,hm⟩:=k0;exact DataW.trod_lt m _ _ _ hm
 have k1:=h1
 have lt1:∀ x∈p1,x.block<W.heap.size:=by obtain ⟨m,hm⟩:=k1;exact DataW.trod_lt m _ _ _ hm
 have k2:=h2
 have lt2:∀ x∈p2,x.block<W.heap.size:=by obtain ⟨m,hm⟩:=k2;exact DataW.trod_lt m _ _ _ hm
 obtain ⟨sa0,sl0,sc0,sv0⟩:=okWide_slice Tryd.underlying22 (hval 0 22 v0 rfl rfl)
 have hc0:v0.cells.toList=[v0]:=by rw [sv0];rfl
 obtain ⟨sa1,sl1,sc1,sv1⟩:=okWide_slice Tryd.underlying23 (hval 1 23 v1 rfl rfl)
 have hc1:v1.cells.toList=[v1]:=by rw [sv1];rfl
 obtain ⟨c2,rfl,sz2⟩:=okWide_struct Tryd.underlying35 (hval 2 35 v2 rfl rfl)
 clear hA0 hval0
 simp only [List.append_nil] at hW'
 have hG:=Gbar_of hL
 obtain ⟨fuel0,hf0⟩:=h0
 rw [hc0] at hf0
 clear hc0 sv0
 obtain ⟨fuel1,hf1⟩:=h1
 rw [hc1] at hf1
 clear hc1 sv1
 obtain ⟨fuel2,hf2⟩:=h2
 have hf2:DataW.trod enc Tryd.prog W 0 (fun _=>true) true fuel2 35 c2.toList=some _:=hf2
 obtain ⟨bs,mk0,w0,w3,n3,y3,e3,hbs,hf3⟩:=open_start hf2
 obtain rfl:c2=#[.string bs,gL (fun _=>⟨0,0,0⟩) (.b64 false mk0),w0,w3]:=Array.ext' (by rw [e3])
 rcases open_rows (ls:=[Leaf.int .u8,Leaf.int .u8,Leaf.int .u8,Leaf.int .i16,Leaf.int .i32]) 8 Tryd.underlying22 (by kernel_rfl) rfl (by kernel_rfl) (by decide) hf0 with ⟨ad0,cap0,rfl⟩ | ⟨b0,o0,len0,cap0,cs0,T0,fr0,us0,ws0,f0,hpos0,hlen0,rfl,hblk0,hdrop0,hseg0,hok0⟩
 · rcases open_rows (ls:=[Leaf.bool]) 8 Tryd.underlying23 (by kernel_rfl) rfl (by kernel_rfl) (by decide) hf1 with ⟨ad1,cap1,rfl⟩ | ⟨b1,o1,len1,cap1,cs1,T1,fr1,us1,ws1,f1,hpos1,hlen1,rfl,hblk1,hdrop1,hseg1,hok1⟩
   · rcases open_rows (ls:=[Leaf.int .u64]) 8 Tryd.underlying33 (by kernel_rfl) rfl (by kernel_rfl) (by decide) hf3 with ⟨ad3,cap3,rfl⟩ | ⟨b3,o3,len3,cap3,cs3,T3,fr3,us3,ws3,f3,hpos3,hlen3,rfl,hblk3,hdrop3,hseg3,hok3⟩
     · refine (Same_w000 W hG ad0 cap0 ad1 cap1 bs mk0 w0 hbs ad3 cap3).mono fun e W' ⟨he,bel⟩=> ?_
       subst he
       exact ⟨_,rfl,_,_,_,[],_,[],hW',trodAll_mk1 (shut_bool Tryd.underlying4 _),(trodAll_cons_mk (Below.trod laidOut (by kernel_rfl) (of_decide_eq_true (by kernel_rfl)) k0 bel lt0) (trodAll_cons_mk (Below.trod laidOut (by kernel_rfl) (of_decide_eq_true (by kernel_rfl)) k1 bel lt1) (trodAll_cons_mk (Below.trod laidOut (by kernel_rfl) (of_decide_eq_true (by kernel_rfl)) k2 bel lt2) trodAll_mk0))),rfl,bel.frame _,fun h=>by cases h⟩
     · refine (Same_w001 W hG ad0 cap0 ad1 cap1 bs mk0 w0 hbs b3 o3 len3 cap3 cs3 T3 fr3 us3 ws3 f3 hpos3 hlen3 hblk3 hdrop3 hseg3 hok3).mono fun e W' ⟨he,bel⟩=> ?_
       subst he
       exact ⟨_,rfl,_,_,_,[],_,[],hW',trodAll_mk1 (shut_bool Tryd.underlying4 _),(trodAll_cons_mk (Below.trod laidOut (by kernel_rfl) (of_decide_eq_true (by kernel_rfl)) k0 bel lt0) (trodAll_cons_mk (Below.trod laidOut (by kernel_rfl) (of_decide_eq_true (by kernel_rfl)) k1 bel lt1) (trodAll_cons_mk (Below.trod laidOut (by kernel_rfl) (of_decide_eq_true (by kernel_rfl)) k2 bel lt2) trodAll_mk0))),rfl,bel.frame _,fun h=>by cases h⟩
   · rcases open_rows (ls:=[Leaf.int .u64]) 8 Tryd.underlying33 (by kernel_rfl) rfl (by kernel_rfl) (by decide) hf3 with ⟨ad3,cap3,rfl⟩ | ⟨b3,o3,len3,cap3,cs3,T3,fr3,us3,ws3,f3,hpos3,hlen3,rfl,hblk3,hdrop3,hseg3,hok3⟩
     · refine (Same_w010 W hG ad0 cap0 b1 o1 len1 cap1 cs1 T1 fr1 us1 ws1 f1 hpos1 hlen1 hblk1 hdrop1 hseg1 hok1 bs mk0 w0 hbs ad3 cap3).mono fun e W' ⟨he,bel⟩=> ?_
       subst he
       exact ⟨_,rfl,_,_,_,[],_,[],hW',trodAll_mk1 (shut_bool Tryd.underlying4 _),(trodAll_cons_mk (Below.trod laidOut (by kernel_rfl) (of_decide_eq_true (by kernel_rfl)) k0 bel lt0) (trodAll_cons_mk (Below.trod laidOut (by kernel_rfl) (of_decide_eq_true (by kernel_rfl)) k1 bel lt1) (trodAll_cons_mk (Below.trod laidOut (by kernel_rfl) (of_decide_eq_true (by kernel_rfl)) k2 bel lt2) trodAll_mk0))),rfl,bel.frame _,fun h=>by cases h⟩
     · refine (Same_w011 W hG ad0 cap0 b1 o1 len1 cap1 cs1 T1 fr1 us1 ws1 f1 hpos1 hlen1 hblk1 hdrop1 hseg1 hok1 bs mk0 w0 hbs b3 o3 len3 cap3 cs3 T3 fr3 us3 ws3 f3 hpos3 hlen3 hblk3 hdrop3 hseg3 hok3).mono fun e W' ⟨he,bel⟩=> ?_
       subst he
       exact ⟨_,rfl,_,_,_,[],_,[],hW',trodAll_mk1 (shut_bool Tryd.underlying4 _),(trodAll_cons_mk (Below.trod laidOut (by kernel_rfl) (of_decide_eq_true (by kernel_rfl)) k0 bel lt0) (trodAll_cons_mk (Below.trod laidOut (by kernel_rfl) (of_decide_eq_true (by kernel_rfl)) k1 bel lt1) (trodAll_cons_mk (Below.trod laidOut (by kernel_rfl) (of_decide_eq_true (by kernel_rfl)) k2 bel lt2) trodAll_mk0))),rfl,bel.frame _,fun h=>by cases h⟩
 · rcases open_rows (ls:=[Leaf.bool]) 8 Tryd.underlying23 (by kernel_rfl) rfl (by kernel_rfl) (by decide) hf1 with ⟨ad1,cap1,rfl⟩ | ⟨b1,o1,len1,cap1,cs1,T1,fr1,us1,ws1,f1,hpos1,hlen1,rfl,hblk1,hdrop1,hseg1,hok1⟩
   · rcases open_rows (ls:=[Leaf.int .u64]) 8 Tryd.underlying33 (by kernel_rfl) rfl (by kernel_rfl) (by decide) hf3 with ⟨ad3,cap3,rfl⟩ | ⟨b3,o3,len3,cap3,cs3,T3,fr3,us3,ws3,f3,hpos3,hlen3,rfl,hblk3,hdrop3,hseg3,hok3⟩
     · refine (Same_w100 W hG b0 o0 len0 cap0 cs0 T0 fr0 us0 ws0 f0 hpos0 hlen0 hblk0 hdrop0 hseg0 hok0 ad1 cap1 bs mk0 w0 hbs ad3 cap3).mono fun e W' ⟨he,bel⟩=> ?_
       subst he
       exact ⟨_,rfl,_,_,_,[],_,[],hW',trodAll_mk1 (shut_bool Tryd.underlying4 _),(trodAll_cons_mk (Below.trod laidOut (by kernel_rfl) (of_decide_eq_true (by kernel_rfl)) k0 bel lt0) (trodAll_cons_mk (Below.trod laidOut (by kernel_rfl) (of_decide_eq_true (by kernel_rfl)) k1 bel lt1) (trodAll_cons_mk (Below.trod laidOut (by kernel_rfl) (of_decide_eq_true (by kernel_rfl)) k2 bel lt2) trodAll_mk0))),rfl,bel.frame _,fun h=>by cases h⟩
     · refine (Same_w101 W hG b0 o0 len0 cap0 cs0 T0 fr0 us0 ws0 f0 hpos0 hlen0 hblk0 hdrop0 hseg0 hok0 ad1 cap1 bs mk0 w0 hbs b3 o3 len3 cap3 cs3 T3 fr3 us3 ws3 f3 hpos3 hlen3 hblk3 hdrop3 hseg3 hok3).mono fun e W' ⟨he,bel⟩=> ?_
       subst he
       exact ⟨_,rfl,_,_,_,[],_,[],hW',trodAll_mk1 (shut_bool Tryd.underlying4 _),(trodAll_cons_mk (Below.trod laidOut (by kernel_rfl) (of_decide_eq_true (by kernel_rfl)) k0 bel lt0) (trodAll_cons_mk (Below.trod laidOut (by kernel_rfl) (of_decide_eq_true (by kernel_rfl)) k1 bel lt1) (trodAll_cons_mk (Below.trod laidOut (by kernel_rfl) (of_decide_eq_true (by kernel_rfl)) k2 bel lt2) trodAll_mk0))),rfl,bel.frame _,fun h=>by cases h⟩
   · rcases open_rows (ls:=[Leaf.int .u64]) 8 Tryd.underlying33 (by kernel_rfl) rfl (by kernel_rfl) (by decide) hf3 with ⟨ad3,cap3,rfl⟩ | ⟨b3,o3,len3,cap3,cs3,T3,fr3,us3,ws3,f3,hpos3,hlen3,rfl,hblk3,hdrop3,hseg3,hok3⟩
     · refine (Same_w110 W hG b0 o0 len0 cap0 cs0 T0 fr0 us0 ws0 f0 hpos0 hlen0 hblk0 hdrop0 hseg0 hok0 b1 o1 len1 cap1 cs1 T1 fr1 us1 ws1 f1 hpos1 hlen1 hblk1 hdrop1 hseg1 hok1 bs mk0 w0 hbs ad3 cap3).mono fun e W' ⟨he,bel⟩=> ?_
       subst he
       exact ⟨_,rfl,_,_,_,[],_,[],hW',trodAll_mk1 (shut_bool Tryd.underlying4 _),(trodAll_cons_mk (Below.trod laidOut (by kernel_rfl) (of_decide_eq_true (by kernel_rfl)) k0 bel lt0) (trodAll_cons_mk (Below.trod laidOut (by kernel_rfl) (of_decide_eq_true (by kernel_rfl)) k1 bel lt1) (trodAll_cons_mk (Below.trod laidOut (by kernel_rfl) (of_decide_eq_true (by kernel_rfl)) k2 bel lt2) trodAll_mk0))),rfl,bel.frame _,fun h=>by cases h⟩
     · refine (Same_w111 W hG b0 o0 len0 cap0 cs0 T0 fr0 us0 ws0 f0 hpos0 hlen0 hblk0 hdrop0 hseg0 hok0 b1 o1 len1 cap1 cs1 T1 fr1 us1 ws1 f1 hpos1 hlen1 hblk1 hdrop1 hseg1 hok1 bs mk0 w0 hbs b3 o3 len3 cap3 cs3 T3 fr3 us3 ws3 f3 hpos3 hlen3 hblk3 hdrop3 hseg3 hok3).mono fun e W' ⟨he,bel⟩=> ?_
       subst he
       exact ⟨_,rfl,_,_,_,[],_,[],hW',trodAll_mk1 (shut_bool Tryd.underlying4 _),(trodAll_cons_mk (Below.trod laidOut (by kernel_rfl) (of_decide_eq_true (by kernel_rfl)) k0 bel lt0) (trodAll_cons_mk (Below.trod laidOut (by kernel_rfl) (of_decide_eq_true (by kernel_rfl)) k1 bel lt1) (trodAll_cons_mk (Below.trod laidOut (by kernel_rfl) (of_decide_eq_true (by kernel_rfl)) k2 bel lt2) trodAll_mk0))),rfl,bel.frame _,fun h=>by cases h⟩
theorem over:Rows.hardenSameRow.holds Tryd.pinned (OpenSpec.ofChange Rows.hardenSameSpec):=
 OpenClaim.holds_of_wide 4 Tryd.f4 rfl rfl rfl rfl rfl rfl rfl ⟨rfl,rfl,rfl,rfl,rfl⟩ rfl rfl rfl rfl rfl (by kernel_rfl) Tryd.func4 (by kernel_rfl)
  (of_decide_eq_true (by kernel_rfl)) (by unfold Func.isWrapper;first | (rw [if_pos (by decide +kernel)];kernel_rfl) | (rw [if_neg (by decide +kernel)];exact ⟨rfl,rfl⟩))
  (fun os started H enc _=>lifted os started H enc)
theorem proved:Rows.HardenSameCardSaid:=
 Claim7.holds_tied_plain_at .later [] [.data] true (true, "9e599aecad9be4ab35b5a969a60fb8ea55e7705696d0f6f4b94b4967a5dcea33") false
  over (fun _ h=>by cases h) (by kernel_rfl) (fun _ h=>by cases h) hardenSame_row_tie rfl ⟨rfl,rfl⟩ (by kernel_rfl) rfl
  (fun f fn hf hfn=>by
    obtain rfl:f=4:=Option.some.inj ((show Tryd.prog.funcNamed "firewall/firewalllaw23.HardenSame"=some 4 by kernel_rfl).symm.trans hf) |>.symm
    obtain rfl:fn=Tryd.f4:=(Option.some.inj (Tryd.func4.symm.trans hfn)).symm
    exact ⟨by kernel_rfl,fun j t ht=>by
     rw [Tryd.params4] at ht
     have hm:t∈[22,23,35]:=by simpa using Array.mem_of_getElem? ht
     have hall:([22,23,35].all fun u=> !Tryd.prog.wantsStandIn u)=true:=by kernel_rfl
     exact (show Tryd.prog.wantsStandIn t=false by simpa using List.all_eq_true.1 hall t hm)⟩)
  (by kernel_rfl)
#print axioms proved
end Go.Proofs.YthkgakelgdncjaaDoor.hardenSameLaw
