/- HardenSame: the document's world, made: the contract. Conditions: as typed. -/
import Derived.Test.YthkgakelgdncjaaDoorMl
import Derived.Test.YthkgakelgdncjaaDoorMm
namespace Go.Proofs.YthkgakelgdncjaaDoor
open Go.Ep Go.RowKit
set_option linter.unusedVariables false
set_option linter.unusedSimpArgs false
noncomputable def newL (nm:Nat) (pe de:Bool) (pk:ByteArray) (mk:BitVec 64) (R:RT) (X:Nat→BitVec 64) (nd:Nat):List Blk:=match nm,pe,de with
 | 0,false,false=>[.cells 73 [.raw (.slice none 0 0),.b64 true (BitVec.ofNat 64 pk.size),.rsl 3 4,.ptr 4 0,.ptr 6 0,.rsl 7 nd],.row 76 3 4 (rgF (ownR 0 false pk mk)),.cells 109 [.rsl 5 5],.row 76 3 5 (rgF R),.cells 114 [.raw (.slice none 0 0),.raw (.slice none 0 0),.ptr 4 0],.row 31 1 nd (uF X)]
 | 0,false,true=>[.cells 73 [.raw (.slice none 0 0),.b64 true (BitVec.ofNat 64 pk.size),.rsl 2 4,.ptr 3 0,.ptr 5 0,.raw (.slice none 0 0)],.row 76 3 4 (rgF (ownR 0 false pk mk)),.cells 109 [.rsl 4 5],.row 76 3 5 (rgF R),.cells 114 [.raw (.slice none 0 0),.raw (.slice none 0 0),.ptr 3 0]]
 | 0,true,false=>[.cells 73 [.raw (.slice none 0 0),.b64 true (BitVec.ofNat 64 0),.rsl 3 3,.ptr 4 0,.ptr 6 0,.rsl 7 nd],.row 76 3 3 (rgF (ownR 0 true { data:=#[] } mk)),.cells 109 [.rsl 5 4],.row 76 3 4 (rgF R),.cells 114 [.raw (.slice none 0 0),.raw (.slice none 0 0),.ptr 4 0],.row 31 1 nd (uF X)]
 | 0,true,true=>[.cells 73 [.raw (.slice none 0 0),.b64 true (BitVec.ofNat 64 0),.rsl 2 3,.ptr 3 0,.ptr 5 0,.raw (.slice none 0 0)],.row 76 3 3 (rgF (ownR 0 true { data:=#[] } mk)),.cells 109 [.rsl 4 4],.row 76 3 4 (rgF R),.cells 114 [.raw (.slice none 0 0),.raw (.slice none 0 0),.ptr 3 0]]
 | 1,false,false=>[.cells 73 [.rsl 10 1,.b64 true (BitVec.ofNat 64 pk.size),.rsl 3 5,.ptr 4 0,.ptr 6 0,.rsl 11 nd],.row 76 3 5 (rgF (ownR 1 false pk mk)),.cells 109 [.rsl 5 6],.row 76 3 6 (rgF R),.cells 114 [.rsl 7 1,.rsl 8 1,.ptr 4 0],.row 64 4 1 mapF2,.vec 115 [.rsl 9 2],.row 9 1 2 (sF keys0),.row 64 4 1 mapF2,.row 31 1 nd (uF X)]
 | 1,false,true=>[.cells 73 [.rsl 9 1,.b64 true (BitVec.ofNat 64 pk.size),.rsl 2 5,.ptr 3 0,.ptr 5 0,.raw (.slice none 0 0)],.row 76 3 5 (rgF (ownR 1 false pk mk)),.cells 109 [.rsl 4 6],.row 76 3 6 (rgF R),.cells 114 [.rsl 6 1,.rsl 7 1,.ptr 3 0],.row 64 4 1 mapF2,.vec 115 [.rsl 8 2],.row 9 1 2 (sF keys0),.row 64 4 1 mapF2]
 | 1,true,false=>[.cells 73 [.rsl 10 1,.b64 true (BitVec.ofNat 64 0),.rsl 3 4,.ptr 4 0,.ptr 6 0,.rsl 11 nd],.row 76 3 4 (rgF (ownR 1 true { data:=#[] } mk)),.cells 109 [.rsl 5 5],.row 76 3 5 (rgF R),.cells 114 [.rsl 7 1,.rsl 8 1,.ptr 4 0],.row 64 4 1 mapF2,.vec 115 [.rsl 9 2],.row 9 1 2 (sF keys0),.row 64 4 1 mapF2,.row 31 1 nd (uF X)]
 | 1,true,true=>[.cells 73 [.rsl 9 1,.b64 true (BitVec.ofNat 64 0),.rsl 2 4,.ptr 3 0,.ptr 5 0,.raw (.slice none 0 0)],.row 76 3 4 (rgF (ownR 1 true { data:=#[] } mk)),.cells 109 [.rsl 4 5],.row 76 3 5 (rgF R),.cells 114 [.rsl 6 1,.rsl 7 1,.ptr 3 0],.row 64 4 1 mapF2,.vec 115 [.rsl 8 2],.row 9 1 2 (sF keys0),.row 64 4 1 mapF2]
 | 2,false,false=>[.cells 73 [.rsl 11 2,.b64 true (BitVec.ofNat 64 pk.size),.rsl 3 6,.ptr 4 0,.ptr 6 0,.rsl 12 nd],.row 76 3 6 (rgF (ownR 2 false pk mk)),.cells 109 [.rsl 5 7],.row 76 3 7 (rgF R),.cells 114 [.rsl 7 2,.rsl 8 2,.ptr 4 0],.row 64 4 2 mapF2,.vec 115 [.rsl 9 2,.rsl 10 3],.row 9 1 2 (sF keys0),.row 9 1 3 (sF keys1),.row 64 4 2 mapF2,.row 31 1 nd (uF X)]
 | 2,false,true=>[.cells 73 [.rsl 10 2,.b64 true (BitVec.ofNat 64 pk.size),.rsl 2 6,.ptr 3 0,.ptr 5 0,.raw (.slice none 0 0)],.row 76 3 6 (rgF (ownR 2 false pk mk)),.cells 109 [.rsl 4 7],.row 76 3 7 (rgF R),.cells 114 [.rsl 6 2,.rsl 7 2,.ptr 3 0],.row 64 4 2 mapF2,.vec 115 [.rsl 8 2,.rsl 9 3],.row 9 1 2 (sF keys0),.row 9 1 3 (sF keys1),.row 64 4 2 mapF2]
 | 2,true,false=>[.cells 73 [.rsl 11 2,.b64 true (BitVec.ofNat 64 0),.rsl 3 5,.ptr 4 0,.ptr 6 0,.rsl 12 nd],.row 76 3 5 (rgF (ownR 2 true { data:=#[] } mk)),.cells 109 [.rsl 5 6],.row 76 3 6 (rgF R),.cells 114 [.rsl 7 2,.rsl 8 2,.ptr 4 0],.row 64 4 2 mapF2,.vec 115 [.rsl 9 2,.rsl 10 3],.row 9 1 2 (sF keys0),.row 9 1 3 (sF keys1),.row 64 4 2 mapF2,.row 31 1 nd (uF X)]
 | 2,true,true=>[.cells 73 [.rsl 10 2,.b64 true (BitVec.ofNat 64 0),.rsl 2 5,.ptr 3 0,.ptr 5 0,.raw (.slice none 0 0)],.row 76 3 5 (rgF (ownR 2 true { data:=#[] } mk)),.cells 109 [.rsl 4 6],.row 76 3 6 (rgF R),.cells 114 [.rsl 6 2,.rsl 7 2,.ptr 3 0],.row 64 4 2 mapF2,.vec 115 [.rsl 8 2,.rsl 9 3],.row 9 1 2 (sF keys0),.row 9 1 3 (sF keys1),.row 64 4 2 mapF2]
 | _,_,_=>[]
def pkOK (pe:Bool) (pk:ByteArray):Prop:=match pe with
 | true=>pk={ data:=#[] }
 | false=>pk.size≤100∧pk.size≠0
noncomputable def sp_new (nm:Nat) (pe de:Bool):SpN:=fun args ch=>match de with
 | false=>match args,ch with
   | [.agg [.rsl 0 k,.b64 true pl],.agg [.str pk,.b64 false mk,.raw v,.rsl 1 nd],.one (.raw v2)],[(0,.row 64 4 2 ls),(1,.ro TD [.seg 1 n2 f])]=>
     some (.p (k=nm∧ls=mapF2∧pl=BitVec.ofNat 64 pk.size∧v= .slice none 0 0∧v2= .slice none 0 0∧pkOK pe pk∧nd≠0∧nd≤100∧n2=nd∧f=uF (uOf f)),.tup [(false,[.ptr 2 0]),(false,[.b64 true 0#64])],newL nm pe false pk mk (memR nm pe pk mk) (uOf f) nd)
   | _,_=>none
 | true=>match args,ch with
   | [.agg [.rsl 0 k,.b64 true pl],.agg [.str pk,.b64 false mk,.raw v,.raw v3],.one (.raw v2)],[(0,.row 64 4 2 ls)]=>
     some (.p (k=nm∧ls=mapF2∧pl=BitVec.ofNat 64 pk.size∧v= .slice none 0 0∧v2= .slice none 0 0∧pkOK pe pk∧∃ ad dc,v3= .slice ad 0 dc),.tup [(false,[.ptr 1 0]),(false,[.b64 true 0#64])],newL nm pe true pk mk (memR nm pe pk mk) (fun _=>0#64) 0)
   | _,_=>none
theorem mem_r00 (pk:ByteArray) (mk:BitVec 64) (hp:pk.size≤100):∃ p,p≤100∧factR 0 false (memR 0 false pk mk) p:=⟨pk.size,hp,mem_f00 pk mk⟩
theorem mem_r01 (pk:ByteArray) (mk:BitVec 64):∃ p,p≤100∧factR 0 true (memR 0 true pk mk) p:=⟨0,by decide,mem_f01 pk mk⟩
theorem mem_r10 (pk:ByteArray) (mk:BitVec 64) (hp:pk.size≤100):∃ p,p≤100∧factR 1 false (memR 1 false pk mk) p:=⟨pk.size,hp,mem_f10 pk mk⟩
theorem mem_r11 (pk:ByteArray) (mk:BitVec 64):∃ p,p≤100∧factR 1 true (memR 1 true pk mk) p:=⟨0,by decide,mem_f11 pk mk⟩
theorem mem_r20 (pk:ByteArray) (mk:BitVec 64) (hp:pk.size≤100):∃ p,p≤100∧factR 2 false (memR 2 false pk mk) p:=⟨pk.size,hp,mem_f20 pk mk⟩
theorem mem_r21 (pk:ByteArray) (mk:BitVec 64):∃ p,p≤100∧factR 2 true (memR 2 true pk mk) p:=⟨0,by decide,mem_f21 pk mk⟩
set_option maxRecDepth 100000 in
set_option maxHeartbeats 16000000 in
theorem e_new (nm:Nat) (pe de:Bool) (hn:nm<3):EntryN Tryd.prog anyWorld 12 (sp_new nm pe de):=by
 refine .of_FIs (by kernel_rfl) Tryd.func12 (by kernel_rfl) (by kernel_rfl) (fun args ch c v fr h hc=> ?_)
 unfold sp_new at h
 cases de
 · dsimp only at h
   split at h
   · rename_i k pl pk mk v nd v2 ls TD n2 f
     cases h
     obtain ⟨rfl,rfl,rfl,rfl,rfl,hp,hd0,hd1,rfl,hf⟩:=hc
     generalize uOf f=X at *
     subst hf
     rcases k with _ | _ | _ | k
     · cases pe
       · exact ⟨_,C_nw_ok (e_mem (nm:=0) (pe:=false) (mem_p00 pk mk hp.1 hp.2)) (e_mps 0 false (by decide)),New_000 0 TD pk mk X n2 0 none _ _ (mem_r00 pk mk hp.1) hp.1 hp.2 hd0 hd1⟩
       · obtain rfl:pk={ data:=#[] }:=hp
         exact ⟨_,C_nw_ok (e_mem (nm:=0) (pe:=true) (mem_p01 { data:=#[] } mk)) (e_mps 0 true (by decide)),New_010 0 TD { data:=#[] } mk X n2 0 none _ _ (mem_r01 { data:=#[] } mk) hd0 hd1⟩
     · cases pe
       · exact ⟨_,C_nw_ok (e_mem (nm:=1) (pe:=false) (mem_p10 pk mk hp.1 hp.2)) (e_mps 1 false (by decide)),New_100 0 TD pk mk X n2 0 none _ _ (mem_r10 pk mk hp.1) hp.1 hp.2 hd0 hd1⟩
       · obtain rfl:pk={ data:=#[] }:=hp
         exact ⟨_,C_nw_ok (e_mem (nm:=1) (pe:=true) (mem_p11 { data:=#[] } mk)) (e_mps 1 true (by decide)),New_110 0 TD { data:=#[] } mk X n2 0 none _ _ (mem_r11 { data:=#[] } mk) hd0 hd1⟩
     · cases pe
       · exact ⟨_,C_nw_ok (e_mem (nm:=2) (pe:=false) (mem_p20 pk mk hp.1 hp.2)) (e_mps 2 false (by decide)),New_200 0 TD pk mk X n2 0 none _ _ (mem_r20 pk mk hp.1) hp.1 hp.2 hd0 hd1⟩
       · obtain rfl:pk={ data:=#[] }:=hp
         exact ⟨_,C_nw_ok (e_mem (nm:=2) (pe:=true) (mem_p21 { data:=#[] } mk)) (e_mps 2 true (by decide)),New_210 0 TD { data:=#[] } mk X n2 0 none _ _ (mem_r21 { data:=#[] } mk) hd0 hd1⟩
     · omega
   · cases h
 · dsimp only at h
   split at h
   · rename_i k pl pk mk v v3 v2 ls
     cases h
     obtain ⟨rfl,rfl,rfl,rfl,rfl,hp,ad,dc,rfl⟩:=hc
     rcases k with _ | _ | _ | k
     · cases pe
       · exact ⟨_,C_nw_ok (e_mem (nm:=0) (pe:=false) (mem_p00 pk mk hp.1 hp.2)) (e_mps 0 false (by decide)),New_001 0 0 pk mk (fun _=>0#64) 0 dc ad _ _ (mem_r00 pk mk hp.1) hp.1 hp.2⟩
       · obtain rfl:pk={ data:=#[] }:=hp
         exact ⟨_,C_nw_ok (e_mem (nm:=0) (pe:=true) (mem_p01 { data:=#[] } mk)) (e_mps 0 true (by decide)),New_011 0 0 { data:=#[] } mk (fun _=>0#64) 0 dc ad _ _ (mem_r01 { data:=#[] } mk)⟩
     · cases pe
       · exact ⟨_,C_nw_ok (e_mem (nm:=1) (pe:=false) (mem_p10 pk mk hp.1 hp.2)) (e_mps 1 false (by decide)),New_101 0 0 pk mk (fun _=>0#64) 0 dc ad _ _ (mem_r10 pk mk hp.1) hp.1 hp.2⟩
       · obtain rfl:pk={ data:=#[] }:=hp
         exact ⟨_,C_nw_ok (e_mem (nm:=1) (pe:=true) (mem_p11 { data:=#[] } mk)) (e_mps 1 true (by decide)),New_111 0 0 { data:=#[] } mk (fun _=>0#64) 0 dc ad _ _ (mem_r11 { data:=#[] } mk)⟩
     · cases pe
       · exact ⟨_,C_nw_ok (e_mem (nm:=2) (pe:=false) (mem_p20 pk mk hp.1 hp.2)) (e_mps 2 false (by decide)),New_201 0 0 pk mk (fun _=>0#64) 0 dc ad _ _ (mem_r20 pk mk hp.1) hp.1 hp.2⟩
       · obtain rfl:pk={ data:=#[] }:=hp
         exact ⟨_,C_nw_ok (e_mem (nm:=2) (pe:=true) (mem_p21 { data:=#[] } mk)) (e_mps 2 true (by decide)),New_211 0 0 { data:=#[] } mk (fun _=>0#64) 0 dc ad _ _ (mem_r21 { data:=#[] } mk)⟩
     · omega
   · cases h
end Go.Proofs.YthkgakelgdncjaaDoor
