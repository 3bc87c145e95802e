/- HardenSame: the document's world, made: the table. Conditions: as typed. -/
import Derived.Test.YthkgakelgdncjaaDoorMh
import Derived.Test.YthkgakelgdncjaaDoorMi
import Derived.Test.YthkgakelgdncjaaDoorMj
namespace Go.Proofs.YthkgakelgdncjaaDoor
open Go.Ep Go.RowKit
set_option linter.unusedVariables false
set_option linter.unusedSimpArgs false
noncomputable def x0 (pk:ByteArray):RG:=⟨65536#64,catB (bytV 196608#64 8#64) (bytV (196608#64 + BitVec.ofNat 64 pk.size) 8#64),false⟩
noncomputable def x1 (mk:BitVec 64):RG:=⟨65552#64,bytV mk 8#64,true⟩
noncomputable def x2:RG:=⟨131072#64,zB 512,true⟩
noncomputable def xp (pk:ByteArray):RG:=⟨196608#64,pk,true⟩
noncomputable def xn:RG:=⟨262144#64,zB 128,true⟩
noncomputable def ownR (nm:Nat) (pe:Bool) (pk:ByteArray) (mk:BitVec 64):RT:=match nm,pe with
 | 0,false=>(jR 3 (jR 2 (jR 1 (oneR (x0 pk)) (oneR (x1 mk))) (oneR x2)) (oneR (xp pk)))
 | 0,true=>(jR 2 (jR 1 (oneR (x0 pk)) (oneR (x1 mk))) (oneR x2))
 | 1,false=>(jR 4 (jR 3 (jR 2 (jR 1 (oneR (x0 pk)) (oneR (x1 mk))) (oneR x2)) (oneR (xp pk))) g0)
 | 1,true=>(jR 3 (jR 2 (jR 1 (oneR (x0 pk)) (oneR (x1 mk))) (oneR x2)) g0)
 | 2,false=>(jR 4 (jR 3 (jR 2 (jR 1 (oneR (x0 pk)) (oneR (x1 mk))) (oneR x2)) (oneR (xp pk))) (jR 1 g0 g1))
 | 2,true=>(jR 3 (jR 2 (jR 1 (oneR (x0 pk)) (oneR (x1 mk))) (oneR x2)) (jR 1 g0 g1))
 | _,_=>oneR x2
noncomputable def allR (nm:Nat) (pe:Bool) (pk:ByteArray) (mk:BitVec 64):RT:=match nm,pe with
 | 0,false=>jR 4 (jR 3 (jR 2 (jR 1 (oneR (x0 pk)) (oneR (x1 mk))) (oneR x2)) (oneR (xp pk))) (oneR xn)
 | 0,true=>jR 3 (jR 2 (jR 1 (oneR (x0 pk)) (oneR (x1 mk))) (oneR x2)) (oneR xn)
 | 1,false=>jR 5 (jR 4 (jR 3 (jR 2 (jR 1 (oneR (x0 pk)) (oneR (x1 mk))) (oneR x2)) (oneR (xp pk))) g0) (oneR xn)
 | 1,true=>jR 4 (jR 3 (jR 2 (jR 1 (oneR (x0 pk)) (oneR (x1 mk))) (oneR x2)) g0) (oneR xn)
 | 2,false=>jR 6 (jR 4 (jR 3 (jR 2 (jR 1 (oneR (x0 pk)) (oneR (x1 mk))) (oneR x2)) (oneR (xp pk))) (jR 1 g0 g1)) (oneR xn)
 | 2,true=>jR 5 (jR 3 (jR 2 (jR 1 (oneR (x0 pk)) (oneR (x1 mk))) (oneR x2)) (jR 1 g0 g1)) (oneR xn)
 | _,_=>oneR x2
theorem mem_p00 (pk:ByteArray) (mk:BitVec 64) (hp2:pk.size≤100) (hp0:pk.size≠0):memP 0 false (allR 0 false pk mk) pk.size:=
 ⟨⟨Nat.pos_of_ne_zero hp0,hp2⟩,⟨rfl,(show (catB (bytV _ 8#64) (bytV _ 8#64)).size=16 by rw [catB_size,byt8,byt8])⟩,⟨rfl,byt8 mk⟩,⟨rfl,zB_size 512⟩,⟨rfl,rfl⟩,⟨rfl,zB_size 128⟩⟩
theorem mem_p01 (pk:ByteArray) (mk:BitVec 64):memP 0 true (allR 0 true pk mk) 1:=
 ⟨⟨by decide,by decide⟩,⟨rfl,(show (catB (bytV _ 8#64) (bytV _ 8#64)).size=16 by rw [catB_size,byt8,byt8])⟩,⟨rfl,byt8 mk⟩,⟨rfl,zB_size 512⟩,⟨rfl,zB_size 128⟩⟩
theorem mem_p10 (pk:ByteArray) (mk:BitVec 64) (hp2:pk.size≤100) (hp0:pk.size≠0):memP 1 false (allR 1 false pk mk) pk.size:=
 ⟨⟨Nat.pos_of_ne_zero hp0,hp2⟩,⟨rfl,(show (catB (bytV _ 8#64) (bytV _ 8#64)).size=16 by rw [catB_size,byt8,byt8])⟩,⟨rfl,byt8 mk⟩,⟨rfl,zB_size 512⟩,⟨rfl,rfl⟩,⟨rfl,zB_size 32⟩,⟨rfl,zB_size 128⟩⟩
theorem mem_p11 (pk:ByteArray) (mk:BitVec 64):memP 1 true (allR 1 true pk mk) 1:=
 ⟨⟨by decide,by decide⟩,⟨rfl,(show (catB (bytV _ 8#64) (bytV _ 8#64)).size=16 by rw [catB_size,byt8,byt8])⟩,⟨rfl,byt8 mk⟩,⟨rfl,zB_size 512⟩,⟨rfl,zB_size 32⟩,⟨rfl,zB_size 128⟩⟩
theorem mem_p20 (pk:ByteArray) (mk:BitVec 64) (hp2:pk.size≤100) (hp0:pk.size≠0):memP 2 false (allR 2 false pk mk) pk.size:=
 ⟨⟨Nat.pos_of_ne_zero hp0,hp2⟩,⟨rfl,(show (catB (bytV _ 8#64) (bytV _ 8#64)).size=16 by rw [catB_size,byt8,byt8])⟩,⟨rfl,byt8 mk⟩,⟨rfl,zB_size 512⟩,⟨rfl,rfl⟩,⟨rfl,zB_size 32⟩,⟨rfl,zB_size 24⟩,⟨rfl,zB_size 128⟩⟩
theorem mem_p21 (pk:ByteArray) (mk:BitVec 64):memP 2 true (allR 2 true pk mk) 1:=
 ⟨⟨by decide,by decide⟩,⟨rfl,(show (catB (bytV _ 8#64) (bytV _ 8#64)).size=16 by rw [catB_size,byt8,byt8])⟩,⟨rfl,byt8 mk⟩,⟨rfl,zB_size 512⟩,⟨rfl,zB_size 32⟩,⟨rfl,zB_size 24⟩,⟨rfl,zB_size 128⟩⟩
noncomputable def memR (nm:Nat) (pe:Bool) (pk:ByteArray) (mk:BitVec 64):RT:=memT nm pe (allR nm pe pk mk)
def sp_mem (n:Nat) (a r:RT):SpN:=fun args ch=>match args,ch with
 | [.one (.rsl 0 n1)],[(0,.row T 3 n2 f)]=>some (.p (n1=n∧n2=n∧f=rgF a),.tup [(false,[.ptr 1 0]),(false,[.b64 true 0#64])],[.cells 109 [.rsl 2 n],.row 76 3 n (rgF r)])
 | _,_=>none
set_option maxRecDepth 100000 in
theorem e_mem {nm:Nat} {pe:Bool} {r:RT} {p:Nat} (h4:memP nm pe r p):EntryN Tryd.prog anyWorld 33 (sp_mem (memN nm pe) r (memT nm pe r)):=by
 refine .of_FI C_q_ok (by kernel_rfl) Tryd.func33 (by kernel_rfl) (by kernel_rfl) (fun args ch c v fr h hc=> ?_)
 unfold sp_mem at h
 split at h
 · rename_i n T n' f
   cases h
   obtain ⟨rfl,rfl,rfl⟩:=hc
   rcases nm with _ | _ | _ | nm
   · cases pe
     · exact Mem_00 T r p h4
     · exact Mem_01 T r p h4
   · cases pe
     · exact Mem_10 T r p h4
     · exact Mem_11 T r p h4
   · cases pe
     · exact Mem_20 T r p h4
     · exact Mem_21 T r p h4
   · exact h4.elim
 · cases h
theorem mem_f00 (pk:ByteArray) (mk:BitVec 64):((memR 0 false pk mk 0).b=65536#64∧(memR 0 false pk mk 0).d.size=16∧(memR 0 false pk mk 0).w=false)∧((memR 0 false pk mk 1).b=65552#64∧(memR 0 false pk mk 1).d.size=8∧(memR 0 false pk mk 1).w=true)∧((memR 0 false pk mk 2).b=131072#64∧(memR 0 false pk mk 2).d.size=512∧(memR 0 false pk mk 2).w=true)∧((memR 0 false pk mk 3).b=196608#64∧(memR 0 false pk mk 3).d.size=pk.size∧(memR 0 false pk mk 3).w=true)∧((memR 0 false pk mk 4).b=262144#64∧(memR 0 false pk mk 4).d.size=128∧(memR 0 false pk mk 4).w=true):=
 ⟨⟨rfl,(show (catB (bytV _ 8#64) (bytV _ 8#64)).size=16 by rw [catB_size,byt8,byt8]),rfl⟩,⟨rfl,byt8 mk,rfl⟩,⟨rfl,zB_size 512,rfl⟩,⟨rfl,rfl,rfl⟩,⟨rfl,zB_size 128,rfl⟩⟩
theorem mem_f01 (pk:ByteArray) (mk:BitVec 64):((memR 0 true pk mk 0).b=65536#64∧(memR 0 true pk mk 0).d.size=16∧(memR 0 true pk mk 0).w=false)∧((memR 0 true pk mk 1).b=65552#64∧(memR 0 true pk mk 1).d.size=8∧(memR 0 true pk mk 1).w=true)∧((memR 0 true pk mk 2).b=131072#64∧(memR 0 true pk mk 2).d.size=512∧(memR 0 true pk mk 2).w=true)∧((memR 0 true pk mk 3).b=262144#64∧(memR 0 true pk mk 3).d.size=128∧(memR 0 true pk mk 3).w=true):=
 ⟨⟨rfl,(show (catB (bytV _ 8#64) (bytV _ 8#64)).size=16 by rw [catB_size,byt8,byt8]),rfl⟩,⟨rfl,byt8 mk,rfl⟩,⟨rfl,zB_size 512,rfl⟩,⟨rfl,zB_size 128,rfl⟩⟩
theorem mem_f10 (pk:ByteArray) (mk:BitVec 64):((memR 1 false pk mk 0).b=65536#64∧(memR 1 false pk mk 0).d.size=16∧(memR 1 false pk mk 0).w=false)∧((memR 1 false pk mk 1).b=65552#64∧(memR 1 false pk mk 1).d.size=8∧(memR 1 false pk mk 1).w=true)∧((memR 1 false pk mk 2).b=131072#64∧(memR 1 false pk mk 2).d.size=512∧(memR 1 false pk mk 2).w=true)∧((memR 1 false pk mk 3).b=196608#64∧(memR 1 false pk mk 3).d.size=pk.size∧(memR 1 false pk mk 3).w=true)∧((memR 1 false pk mk 4).b=262144#64∧(memR 1 false pk mk 4).d.size=128∧(memR 1 false pk mk 4).w=true)∧((memR 1 false pk mk 5).b=1048576#64∧(memR 1 false pk mk 5).d.size=32∧(memR 1 false pk mk 5).w=true):=
 ⟨⟨rfl,(show (catB (bytV _ 8#64) (bytV _ 8#64)).size=16 by rw [catB_size,byt8,byt8]),rfl⟩,⟨rfl,byt8 mk,rfl⟩,⟨rfl,zB_size 512,rfl⟩,⟨rfl,rfl,rfl⟩,⟨rfl,zB_size 128,rfl⟩,⟨rfl,zB_size 32,rfl⟩⟩
theorem mem_f11 (pk:ByteArray) (mk:BitVec 64):((memR 1 true pk mk 0).b=65536#64∧(memR 1 true pk mk 0).d.size=16∧(memR 1 true pk mk 0).w=false)∧((memR 1 true pk mk 1).b=65552#64∧(memR 1 true pk mk 1).d.size=8∧(memR 1 true pk mk 1).w=true)∧((memR 1 true pk mk 2).b=131072#64∧(memR 1 true pk mk 2).d.size=512∧(memR 1 true pk mk 2).w=true)∧((memR 1 true pk mk 3).b=262144#64∧(memR 1 true pk mk 3).d.size=128∧(memR 1 true pk mk 3).w=true)∧((memR 1 true pk mk 4).b=1048576#64∧(memR 1 true pk mk 4).d.size=32∧(memR 1 true pk mk 4).w=true):=
 ⟨⟨rfl,(show (catB (bytV _ 8#64) (bytV _ 8#64)).size=16 by rw [catB_size,byt8,byt8]),rfl⟩,⟨rfl,byt8 mk,rfl⟩,⟨rfl,zB_size 512,rfl⟩,⟨rfl,zB_size 128,rfl⟩,⟨rfl,zB_size 32,rfl⟩⟩
theorem mem_f20 (pk:ByteArray) (mk:BitVec 64):((memR 2 false pk mk 0).b=65536#64∧(memR 2 false pk mk 0).d.size=16∧(memR 2 false pk mk 0).w=false)∧((memR 2 false pk mk 1).b=65552#64∧(memR 2 false pk mk 1).d.size=8∧(memR 2 false pk mk 1).w=true)∧((memR 2 false pk mk 2).b=131072#64∧(memR 2 false pk mk 2).d.size=512∧(memR 2 false pk mk 2).w=true)∧((memR 2 false pk mk 3).b=196608#64∧(memR 2 false pk mk 3).d.size=pk.size∧(memR 2 false pk mk 3).w=true)∧((memR 2 false pk mk 4).b=262144#64∧(memR 2 false pk mk 4).d.size=128∧(memR 2 false pk mk 4).w=true)∧((memR 2 false pk mk 5).b=1048576#64∧(memR 2 false pk mk 5).d.size=32∧(memR 2 false pk mk 5).w=true)∧((memR 2 false pk mk 6).b=1114112#64∧(memR 2 false pk mk 6).d.size=24∧(memR 2 false pk mk 6).w=true):=
 ⟨⟨rfl,(show (catB (bytV _ 8#64) (bytV _ 8#64)).size=16 by rw [catB_size,byt8,byt8]),rfl⟩,⟨rfl,byt8 mk,rfl⟩,⟨rfl,zB_size 512,rfl⟩,⟨rfl,rfl,rfl⟩,⟨rfl,zB_size 128,rfl⟩,⟨rfl,zB_size 32,rfl⟩,⟨rfl,zB_size 24,rfl⟩⟩
theorem mem_f21 (pk:ByteArray) (mk:BitVec 64):((memR 2 true pk mk 0).b=65536#64∧(memR 2 true pk mk 0).d.size=16∧(memR 2 true pk mk 0).w=false)∧((memR 2 true pk mk 1).b=65552#64∧(memR 2 true pk mk 1).d.size=8∧(memR 2 true pk mk 1).w=true)∧((memR 2 true pk mk 2).b=131072#64∧(memR 2 true pk mk 2).d.size=512∧(memR 2 true pk mk 2).w=true)∧((memR 2 true pk mk 3).b=262144#64∧(memR 2 true pk mk 3).d.size=128∧(memR 2 true pk mk 3).w=true)∧((memR 2 true pk mk 4).b=1048576#64∧(memR 2 true pk mk 4).d.size=32∧(memR 2 true pk mk 4).w=true)∧((memR 2 true pk mk 5).b=1114112#64∧(memR 2 true pk mk 5).d.size=24∧(memR 2 true pk mk 5).w=true):=
 ⟨⟨rfl,(show (catB (bytV _ 8#64) (bytV _ 8#64)).size=16 by rw [catB_size,byt8,byt8]),rfl⟩,⟨rfl,byt8 mk,rfl⟩,⟨rfl,zB_size 512,rfl⟩,⟨rfl,zB_size 128,rfl⟩,⟨rfl,zB_size 32,rfl⟩,⟨rfl,zB_size 24,rfl⟩⟩
noncomputable abbrev FSnw:List (Nat×Func):=[(29,Tryd.f29)]
theorem fs_nw:FsOK Tryd.prog FSnw:=(FsOK.cons Tryd.func29 (by kernel_rfl) (by kernel_rfl) FsOK.nil)
noncomputable abbrev C_n0:Table:=⟨(tabM noData [(30,sp_bytes),(56,sp_base),(31,sp_zeros)] [(32,spD sp_reg0)]).fn,noData.glob,noData.look,fun _ _ _ _ _=>Stuck "call",.sym,0,0,[1000000],tabK [(32,spDN sp_regs)],[32]⟩
theorem C_n0_ok:CSound Tryd.prog anyWorld C_n0:=(((CSound.startM (((CSound.start.cons e_zeros).cons e_base).cons e_Bytes)).consM (EntryM.of_D e_reg0)).withMk (.cons (EntryK.of_N e_regs) .nil)).inl' (InlOK.none _ _) .sym 0 0 [1000000] [32]
noncomputable abbrev C_nw (nm n:Nat) (a r:RT) (F:RT→Prop):Table:=⟨C_n0.fn,C_n0.glob,C_n0.look,nInl [(33,sp_mem n a r),(34,sp_mps nm n F)] (inlN Tryd.prog C_n0 FSnw 4),.sym,0,0,[1000000],C_n0.mkr,[32]⟩
theorem C_nw_ok {nm n:Nat} {a r:RT} {F:RT→Prop} (e:EntryN Tryd.prog anyWorld 33 (sp_mem n a r)) (e2:EntryN Tryd.prog anyWorld 34 (sp_mps nm n F)):CSound Tryd.prog anyWorld (C_nw nm n a r F):=C_n0_ok.inl' (nInl_sound (.cons e (.cons e2 .nil)) (inlN_sound C_n0_ok (by kernel_rfl) fs_nw 4)) .sym 0 0 [1000000] [32]
theorem look_n1 {b0 d:Blk} {g:List (Nat×Blk)} {i:Nat} (h:Ep.look [(0,b0)] i=some d) (h0:Ep.look g 0=some b0):Ep.look g i=some d:=by
 rcases i with _ | i
 · exact h0.trans h
 · have h':(none:Option Blk)=some d:=h
   cases h'
theorem look_n2 {b0 b1 d:Blk} {g:List (Nat×Blk)} {i:Nat} (h:Ep.look [(0,b0),(1,b1)] i=some d) (h0:Ep.look g 0=some b0) (h1:Ep.look g 1=some b1):Ep.look g i=some d:=by
 rcases i with _ | _ | i
 · exact h0.trans h
 · exact h1.trans h
 · have h':(none:Option Blk)=some d:=h
   cases h'
end Go.Proofs.YthkgakelgdncjaaDoor
