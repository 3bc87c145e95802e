/- Chapter 04: visit, the part of Check that goes deep first: a contract. Conditions: as typed. -/
import Derived.Test.YthkgakelgdncjaaDoorOb
import Derived.Test.YthkgakelgdncjaaDoorPs
namespace Go.Proofs.YthkgakelgdncjaaDoor
open Go.Ep Go.RowKit
set_option linter.unusedVariables false
set_option linter.unusedSimpArgs false
noncomputable abbrev FSn:List (Nat×Func):=[(16,Tryd.f16),(48,Tryd.f48),(77,Tryd.f77),(49,Tryd.f49)]
theorem fs_n:FsOK Tryd.prog FSn:=FsOK.cons Tryd.func16 (by kernel_rfl) (by kernel_rfl) (FsOK.cons Tryd.func48 (by kernel_rfl) (by kernel_rfl) (FsOK.cons Tryd.func77 (by kernel_rfl) (by kernel_rfl) (FsOK.cons Tryd.func49 (by kernel_rfl) (by kernel_rfl) (FsOK.nil))))
noncomputable abbrev C_n:Table:=tabI Tryd.prog noData tb_o FSn 4
theorem CI_n:CSound Tryd.prog anyWorld C_n:=CSound.tabI C_o (by kernel_rfl) fs_n 4
def bOf (f:Nat→List PL):Nat→Bool:=fun k=>match f k with
 | [.bool b]=>b
 | _=>false
def chV (n len cap:Nat) (T:TypeId) (x:IT) (g:Nat→Bool):List (Nat×Blk):=[(0,.cells 23 [.rsl 3 len]),(1,.cells 22 [.slc 4 0 len cap]),(2,.cells 101 [.clo 43 [(0,0),(1,0),(2,0)]]),(3,.row 4 1 len (bF g)),(4,.ro T [.seg 5 len (inF x)])]
theorem if0 {α:Type} (a b:α):(if 1≤(0#64).toNat then a else b)=b:=if_neg (by decide)
theorem if1 {α:Type} (a b:α):(if 1≤(0#64 + 1#64).toNat then a else b)=a:=if_pos (by decide)
structure VisC (x:IT) (len:Nat) (g:Nat→Bool) (m p:Nat):Prop where
 ways:WaysOK x len
 lt:p<len
 hh:hf x p=false
 hc:cnt g len≤m
def sp_vis (m:Nat):SpW:=fun args ch=>match args,ch with
 | [.one (.b64 true p),.one (.ptr i0 o0),.one (.ptr i1 o1),.one (.ptr i2 o2)],[(a0,.cells t0 [.rsl j0 n]),(a1,.cells t1 [.slc j1 q1 len cap]),(a2,.cells t2 [.clo f caps]),(a3,.row t3 z3 n3 g),(a4,.ro T [.seg z4 n4 y])]=>
   match Nat.beq z3 1,Nat.beq z4 5 with
   | true,true=>some (Cond.p ((i0=0∧o0=0∧i1=1∧o1=0∧i2=2∧o2=0)∧(a0=0∧a1=1∧a2=2∧a3=3∧a4=4)∧(t0=23∧t1=22∧t2=101∧t3=4)∧(j0=3∧n=len∧j1=4∧q1=0∧f=43∧caps=[(0,0),(1,0),(2,0)]∧n3=len∧n4=len)∧y=inF (inOf y)∧g=bF (bOf g)∧VisC (inOf y) len (bOf g) m p.toNat),
      .tup [],[(3,.row 4 1 len (bF (visF (inOf y) m p.toNat (bOf g))))])
   | _,_=>none
 | _,_=>none
set_option maxRecDepth 100000 in
set_option maxHeartbeats 16000000 in
theorem Vis_0 (len cap:Nat) (T:TypeId) (x:IT) (g:Nat→Bool) (p:BitVec 64) (hl:len≤8000) (hp:p.toNat<len) (p0:p.slt 0#64=false) (p1:(BitVec.ofNat 64 len).sle p=false) (ws:List (Nat×SpW)) (hg:g p.toNat=true) (K:AV→List (Nat×Blk)→Prop) (hK:K (.tup []) (chV len len cap T x (g))) :
 FI Tryd.prog (withW C_n ws) Tryd.f43 5 [.one (.b64 true p),.one (.ptr 0 0),.one (.ptr 1 0),.one (.ptr 2 0)] (chV len len cap T x g) K:=by
 repeat' (first
  | (with_reducible apply Given.mk;intro h;(try simp only [if0,if1,p0,p1,hg,Bool.not_true,Bool.not_false,Bool.true_eq_false,Bool.false_eq_true,reduceCtorEq] at h);(try exact absurd h (by decide)))
  | ((conv=>whnf);first
    | with_reducible apply Both.mk
    | refine LoopP.times 4 ?_))
 all_goals first
  | (with_reducible apply Ob.mk;kernel_rfl)
  | ((with_reducible apply Ob.mk);exact ixp hl hp)
  | ((with_reducible apply Ob.mk);exact (ixp hl hp).2)
  | ((with_reducible apply Ob.mk);show len<9223372036854775808;omega)
  | ((with_reducible apply Ob.mk);exact fun _=>rfl)
  | ((with_reducible apply Ob.mk);exact ⟨rfl,fun _=>rfl,fun _=>rfl⟩)
  | (with_reducible apply Ob.mk;decide)
  | ((conv=>whnf);exact hK)
  | (with_reducible apply Ob.mk;skip)
  | ((conv=>whnf);skip)
set_option maxRecDepth 100000 in
set_option maxHeartbeats 16000000 in
theorem Vis_1 (len cap:Nat) (T:TypeId) (x:IT) (g:Nat→Bool) (p:BitVec 64) (hl:len≤8000) (hp:p.toNat<len) (p0:p.slt 0#64=false) (p1:(BitVec.ofNat 64 len).sle p=false) (m:Nat) (hg:g p.toNat=false) (he:endB (x p.toNat).o=true) (K:AV→List (Nat×Blk)→Prop) (hK:K (.tup []) (chV len len cap T x (mark g p.toNat))) :
 FI Tryd.prog (withW C_n [(43,sp_vis m)]) Tryd.f43 5 [.one (.b64 true p),.one (.ptr 0 0),.one (.ptr 1 0),.one (.ptr 2 0)] (chV len len cap T x g) K:=by
 repeat' (first
  | (with_reducible apply Given.mk;intro h;(try simp only [if0,if1,p0,p1,hg,he,Bool.not_true,Bool.not_false,Bool.true_eq_false,Bool.false_eq_true,reduceCtorEq] at h);(try exact absurd h (by decide)))
  | ((conv=>whnf);first
    | with_reducible apply Both.mk
    | refine LoopP.times 4 ?_))
 all_goals first
  | (with_reducible apply Ob.mk;kernel_rfl)
  | ((with_reducible apply Ob.mk);exact ixp hl hp)
  | ((with_reducible apply Ob.mk);exact (ixp hl hp).2)
  | ((with_reducible apply Ob.mk);show len<9223372036854775808;omega)
  | ((with_reducible apply Ob.mk);exact fun _=>rfl)
  | ((with_reducible apply Ob.mk);exact ⟨rfl,fun _=>rfl,fun _=>rfl⟩)
  | (with_reducible apply Ob.mk;decide)
  | ((conv=>whnf);rw [bF_upd];exact hK)
  | (with_reducible apply Ob.mk;skip)
  | ((conv=>whnf);skip)
set_option maxRecDepth 100000 in
set_option maxHeartbeats 16000000 in
theorem Vis_2 (len cap:Nat) (T:TypeId) (x:IT) (g:Nat→Bool) (p:BitVec 64) (hl:len≤8000) (hp:p.toNat<len) (p0:p.slt 0#64=false) (p1:(BitVec.ofNat 64 len).sle p=false) (m:Nat) (hg:g p.toNat=false) (he:endB (x p.toNat).o=false) (ha:alwB (x p.toNat).o=true) (hj:jmpB (x p.toNat).o=true) (t0:(p + 1#64 + (x p.toNat).f.signExtend 64).slt 0#64=false) (t1:(BitVec.ofNat 64 len).sle (p + 1#64 + (x p.toNat).f.signExtend 64)=false) (tv:VisC x len (mark g p.toNat) m (p + 1#64 + (x p.toNat).f.signExtend 64).toNat) (K:AV→List (Nat×Blk)→Prop) (hK:K (.tup []) (chV len len cap T x (visF x m (p + 1#64 + (x p.toNat).f.signExtend 64).toNat (mark g p.toNat)))) :
 FI Tryd.prog (withW C_n [(43,sp_vis m)]) Tryd.f43 5 [.one (.b64 true p),.one (.ptr 0 0),.one (.ptr 1 0),.one (.ptr 2 0)] (chV len len cap T x g) K:=by
 repeat' (first
  | (with_reducible apply Given.mk;intro h;(try simp only [if0,if1,p0,p1,hg,he,ha,hj,t0,t1,Bool.not_true,Bool.not_false,Bool.true_eq_false,Bool.false_eq_true,reduceCtorEq] at h);(try exact absurd h (by decide)))
  | ((conv=>whnf);first
    | with_reducible apply Both.mk
    | refine LoopP.times 4 ?_))
 all_goals first
  | (with_reducible apply Ob.mk;kernel_rfl)
  | ((with_reducible apply Ob.mk);exact ixp hl hp)
  | ((with_reducible apply Ob.mk);exact (ixp hl hp).2)
  | ((with_reducible apply Ob.mk);show len<9223372036854775808;omega)
  | ((with_reducible apply Ob.mk);exact fun _=>rfl)
  | ((with_reducible apply Ob.mk);exact ⟨rfl,fun _=>rfl,fun _=>rfl⟩)
  | (with_reducible apply Ob.mk;decide)
  | ((with_reducible apply Ob.mk);refine ⟨⟨rfl,rfl,rfl,rfl,rfl,rfl⟩,⟨rfl,rfl,rfl,rfl,rfl⟩,⟨rfl,rfl,rfl,rfl⟩,⟨rfl,rfl,rfl,rfl,rfl,rfl,rfl,rfl⟩,rfl,?_,?_⟩<;>(try simp only [if0,if1])<;>rw [bF_upd]<;>first | rfl | exact nv | exact tv)
  | ((with_reducible apply Ob.mk);refine ⟨⟨rfl,rfl,rfl,rfl,rfl,rfl⟩,⟨rfl,rfl,rfl,rfl,rfl⟩,⟨rfl,rfl,rfl,rfl⟩,⟨rfl,rfl,rfl,rfl,rfl,rfl,rfl,rfl⟩,rfl,rfl,?_⟩;(try simp only [if0,if1]);rw [bF_upd];first | exact nv | exact tv)
  | ((conv=>whnf);(try simp only [if0,if1]);rw [bF_upd];exact hK)
  | (with_reducible apply Ob.mk;skip)
  | ((conv=>whnf);skip)
set_option maxRecDepth 100000 in
set_option maxHeartbeats 16000000 in
theorem Vis_4 (len cap:Nat) (T:TypeId) (x:IT) (g:Nat→Bool) (p:BitVec 64) (hl:len≤8000) (hp:p.toNat<len) (p0:p.slt 0#64=false) (p1:(BitVec.ofNat 64 len).sle p=false) (m:Nat) (hg:g p.toNat=false) (he:endB (x p.toNat).o=false) (ha:alwB (x p.toNat).o=false) (hj:jmpB (x p.toNat).o=false) (n0:(p + szV (x p.toNat).o).slt 0#64=false) (n1:(BitVec.ofNat 64 len).sle (p + szV (x p.toNat).o)=false) (nv:VisC x len (mark g p.toNat) m (p + szV (x p.toNat).o).toNat) (K:AV→List (Nat×Blk)→Prop) (hK:K (.tup []) (chV len len cap T x (visF x m (p + szV (x p.toNat).o).toNat (mark g p.toNat)))) :
 FI Tryd.prog (withW C_n [(43,sp_vis m)]) Tryd.f43 5 [.one (.b64 true p),.one (.ptr 0 0),.one (.ptr 1 0),.one (.ptr 2 0)] (chV len len cap T x g) K:=by
 repeat' (first
  | (with_reducible apply Given.mk;intro h;(try simp only [if0,if1,p0,p1,hg,he,ha,hj,n0,n1,Bool.not_true,Bool.not_false,Bool.true_eq_false,Bool.false_eq_true,reduceCtorEq] at h);(try exact absurd h (by decide)))
  | ((conv=>whnf);first
    | with_reducible apply Both.mk
    | refine LoopP.times 4 ?_))
 all_goals first
  | (with_reducible apply Ob.mk;kernel_rfl)
  | ((with_reducible apply Ob.mk);exact ixp hl hp)
  | ((with_reducible apply Ob.mk);exact (ixp hl hp).2)
  | ((with_reducible apply Ob.mk);show len<9223372036854775808;omega)
  | ((with_reducible apply Ob.mk);exact fun _=>rfl)
  | ((with_reducible apply Ob.mk);exact ⟨rfl,fun _=>rfl,fun _=>rfl⟩)
  | (with_reducible apply Ob.mk;decide)
  | ((with_reducible apply Ob.mk);refine ⟨⟨rfl,rfl,rfl,rfl,rfl,rfl⟩,⟨rfl,rfl,rfl,rfl,rfl⟩,⟨rfl,rfl,rfl,rfl⟩,⟨rfl,rfl,rfl,rfl,rfl,rfl,rfl,rfl⟩,rfl,?_,?_⟩<;>(try simp only [if0,if1])<;>rw [bF_upd]<;>first | rfl | exact nv | exact tv)
  | ((with_reducible apply Ob.mk);refine ⟨⟨rfl,rfl,rfl,rfl,rfl,rfl⟩,⟨rfl,rfl,rfl,rfl,rfl⟩,⟨rfl,rfl,rfl,rfl⟩,⟨rfl,rfl,rfl,rfl,rfl,rfl,rfl,rfl⟩,rfl,rfl,?_⟩;(try simp only [if0,if1]);rw [bF_upd];first | exact nv | exact tv)
  | ((conv=>whnf);(try simp only [if0,if1]);rw [bF_upd];exact hK)
  | (with_reducible apply Ob.mk;skip)
  | ((conv=>whnf);skip)
set_option maxRecDepth 100000 in
set_option maxHeartbeats 16000000 in
theorem Vis_3 (len cap:Nat) (T:TypeId) (x:IT) (g:Nat→Bool) (p:BitVec 64) (hl:len≤8000) (hp:p.toNat<len) (p0:p.slt 0#64=false) (p1:(BitVec.ofNat 64 len).sle p=false) (m:Nat) (hg:g p.toNat=false) (he:endB (x p.toNat).o=false) (ha:alwB (x p.toNat).o=false) (hj:jmpB (x p.toNat).o=true) (n0:(p + szV (x p.toNat).o).slt 0#64=false) (n1:(BitVec.ofNat 64 len).sle (p + szV (x p.toNat).o)=false) (nv:VisC x len (mark g p.toNat) m (p + szV (x p.toNat).o).toNat) (t0:(p + 1#64 + (x p.toNat).f.signExtend 64).slt 0#64=false) (t1:(BitVec.ofNat 64 len).sle (p + 1#64 + (x p.toNat).f.signExtend 64)=false) (tv:VisC x len (visF x m (p + szV (x p.toNat).o).toNat (mark g p.toNat)) m (p + 1#64 + (x p.toNat).f.signExtend 64).toNat) (K:AV→List (Nat×Blk)→Prop) (hK:K (.tup []) (chV len len cap T x (visF x m (p + 1#64 + (x p.toNat).f.signExtend 64).toNat (visF x m (p + szV (x p.toNat).o).toNat (mark g p.toNat))))) :
 FI Tryd.prog (withW C_n [(43,sp_vis m)]) Tryd.f43 5 [.one (.b64 true p),.one (.ptr 0 0),.one (.ptr 1 0),.one (.ptr 2 0)] (chV len len cap T x g) K:=by
 repeat' (first
  | (with_reducible apply Given.mk;intro h;(try simp only [if0,if1,p0,p1,hg,he,ha,hj,n0,n1,t0,t1,Bool.not_true,Bool.not_false,Bool.true_eq_false,Bool.false_eq_true,reduceCtorEq] at h);(try exact absurd h (by decide)))
  | ((conv=>whnf);first
    | with_reducible apply Both.mk
    | refine LoopP.times 4 ?_))
 all_goals first
  | (with_reducible apply Ob.mk;kernel_rfl)
  | ((with_reducible apply Ob.mk);exact ixp hl hp)
  | ((with_reducible apply Ob.mk);exact (ixp hl hp).2)
  | ((with_reducible apply Ob.mk);show len<9223372036854775808;omega)
  | ((with_reducible apply Ob.mk);exact fun _=>rfl)
  | ((with_reducible apply Ob.mk);exact ⟨rfl,fun _=>rfl,fun _=>rfl⟩)
  | (with_reducible apply Ob.mk;decide)
  | ((with_reducible apply Ob.mk);refine ⟨⟨rfl,rfl,rfl,rfl,rfl,rfl⟩,⟨rfl,rfl,rfl,rfl,rfl⟩,⟨rfl,rfl,rfl,rfl⟩,⟨rfl,rfl,rfl,rfl,rfl,rfl,rfl,rfl⟩,rfl,?_,?_⟩<;>(try simp only [if0,if1])<;>rw [bF_upd]<;>first | rfl | exact nv | exact tv)
  | ((with_reducible apply Ob.mk);refine ⟨⟨rfl,rfl,rfl,rfl,rfl,rfl⟩,⟨rfl,rfl,rfl,rfl,rfl⟩,⟨rfl,rfl,rfl,rfl⟩,⟨rfl,rfl,rfl,rfl,rfl,rfl,rfl,rfl⟩,rfl,rfl,?_⟩;(try simp only [if0,if1]);rw [bF_upd];first | exact nv | exact tv)
  | ((conv=>whnf);(try simp only [if0,if1]);rw [bF_upd];exact hK)
  | (with_reducible apply Ob.mk;skip)
  | ((conv=>whnf);skip)
theorem look_vis (len cap:Nat) (T:TypeId) (x:IT) (g g':Nat→Bool):∀ i d,Go.Ep.look (chV len len cap T x g) i=some d→Go.Ep.look (chV len len cap T x g') i=lookU [(3,.row 4 1 len (bF g'))] i (some d)
 | 0,d,h=>h
 | 1,d,h=>h
 | 2,d,h=>h
 | 3,d,h=>rfl
 | 4,d,h=>h
 | n + 5,d,h=>by cases h
theorem p_facts {x:IT} {len m:Nat} {g:Nat→Bool} {p:BitVec 64} (h:VisC x len g m p.toNat):p.slt 0#64=false∧(BitVec.ofNat 64 len).sle p=false:=by
 have hn:=h.ways.small
 have hp:=h.lt
 have e:=toInt_lt hn hp
 have z:(0#64).toInt=0:=by decide
 rw [BitVec.slt_eq_decide,BitVec.sle_eq_decide,e,z,toInt_ofNat (n:=len) (by omega)]
 simp only [decide_eq_false_iff_not];omega
theorem nx_nat {x:IT} {len m:Nat} {g:Nat→Bool} {p:BitVec 64} (h:VisC x len g m p.toNat):(p + szV (x p.toNat).o).toNat=p.toNat + szN (x p.toNat).o:=by
 have hn:=h.ways.small
 have hp:=h.lt
 have hs:szN (x p.toNat).o≤2:=by unfold szN;split<;>omega
 rw [szV_nat,BitVec.toNat_add,nat_ofNat (by omega)];omega
theorem bv_p {p:BitVec 64}:bv p.toNat=p:=by rw [bv,BitVec.ofNat_toNat,BitVec.setWidth_eq]
theorem vis_step {x:IT} {len m:Nat} {g:Nat→Bool} {p q:BitVec 64} (h:VisC x len g (m + 1) p.toNat) (hg:g p.toNat=false) (hq:q.toNat∈succ x p.toNat):q.slt 0#64=false∧(BitVec.ofNat 64 len).sle q=false∧VisC x len (mark g p.toNat) m q.toNat:=by
 have hc:cnt (mark g p.toNat) len≤m:=by have:=cnt_mark hg len h.lt;have:=h.hc;omega
 have hl:=succ_lt h.ways h.lt h.hh hq
 have v:VisC x len (mark g p.toNat) m q.toNat:=⟨h.ways,hl.1,hl.2,hc⟩
 exact ⟨(p_facts v).1,(p_facts v).2,v⟩
theorem vis_more {x:IT} {len m q':Nat} {g:Nat→Bool} {q:BitVec 64} (h:VisC x len g m q.toNat):VisC x len (visF x m q' g) m q.toNat:=⟨h.ways,h.lt,h.hh,Nat.le_trans (cnt_le (fun j hj=>visF_mono x m q' g j hj) len) h.hc⟩
set_option maxRecDepth 100000 in
theorem vis_FI (m:Nat) (len cap:Nat) (T:TypeId) (x:IT) (g:Nat→Bool) (p:BitVec 64) (h:VisC x len g (m + 1) p.toNat) (K:AV→List (Nat×Blk)→Prop) (hK:K (.tup []) (chV len len cap T x (visF x (m + 1) p.toNat g))) :
 FI Tryd.prog (withW C_n [(43,sp_vis m)]) Tryd.f43 5 [.one (.b64 true p),.one (.ptr 0 0),.one (.ptr 1 0),.one (.ptr 2 0)] (chV len len cap T x g) K:=by
 obtain ⟨p0,p1⟩:=p_facts h
 have hl:=h.ways.small
 rw [visF_s] at hK
 cases hg:g p.toNat with
 | true=>
   rw [hg] at hK
   exact Vis_0 len cap T x g p hl h.lt p0 p1 _ hg K hK
 | false=>
   rw [hg] at hK
   simp only [Bool.false_eq_true,if_false] at hK
   cases he:endB (x p.toNat).o with
   | true=>
     rw [succ,he,if_pos rfl,visL_n] at hK
     exact Vis_1 len cap T x g p hl h.lt p0 p1 m hg he K hK
   | false=>
     cases ha:alwB (x p.toNat).o with
     | true=>
       have hj:jmpB (x p.toNat).o=true:=by simp only [alwB,Bool.and_eq_true] at ha;exact ha.1
       have es:succ x p.toNat=[(toV x p).toNat]:=by rw [succ,he,ha];simp [bv_p]
       rw [es,visL_c,visL_n] at hK
       obtain ⟨t0,t1,tv⟩:=vis_step (q:=toV x p) h hg (by rw [es];simp)
       exact Vis_2 len cap T x g p hl h.lt p0 p1 m hg he ha hj t0 t1 tv K hK
     | false=>
       cases hj:jmpB (x p.toNat).o with
       | false=>
         have es:succ x p.toNat=[(p + szV (x p.toNat).o).toNat]:=by rw [succ,he,ha,hj,nx_nat h];simp
         rw [es,visL_c,visL_n] at hK
         obtain ⟨n0,n1,nv⟩:=vis_step (q:=p + szV (x p.toNat).o) h hg (by rw [es];simp)
         exact Vis_4 len cap T x g p hl h.lt p0 p1 m hg he ha hj n0 n1 nv K hK
       | true=>
         have es:succ x p.toNat=[(p + szV (x p.toNat).o).toNat,(toV x p).toNat]:=by rw [succ,he,ha,hj,nx_nat h];simp [bv_p]
         rw [es,visL_c,visL_c,visL_n] at hK
         obtain ⟨n0,n1,nv⟩:=vis_step (q:=p + szV (x p.toNat).o) h hg (by rw [es];simp)
         obtain ⟨t0,t1,tv⟩:=vis_step (q:=toV x p) h hg (by rw [es];simp)
         exact Vis_3 len cap T x g p hl h.lt p0 p1 m hg he ha hj n0 n1 nv t0 t1 (vis_more tv) K hK
set_option maxRecDepth 100000 in
theorem e_vis0:EntryW Tryd.prog anyWorld 43 (sp_vis 0):=by
 refine .of_FI (CI_n.withW .nil) (by kernel_rfl) Tryd.func43 (by kernel_rfl) (by kernel_rfl) (fun args ch c v ups h hc=> ?_)
 unfold sp_vis at h
 split at h
 · split at h
   · rename_i h1 h2
     cases h
     obtain ⟨⟨rfl,rfl,rfl,rfl,rfl,rfl⟩,⟨rfl,rfl,rfl,rfl,rfl⟩,⟨rfl,rfl,rfl,rfl⟩,⟨rfl,rfl,rfl,rfl,rfl,rfl,rfl,rfl⟩,hy,hg,hv⟩:=hc
     obtain rfl:=Nat.eq_of_beq_eq_true h1
     obtain rfl:=Nat.eq_of_beq_eq_true h2
     revert hy hg hv
     generalize inOf _=x
     generalize bOf _=g
     rintro rfl rfl hv
     obtain ⟨p0,p1⟩:=p_facts hv
     exact Vis_0 _ _ _ x g _ hv.ways.small hv.lt p0 p1 [] (cnt_zero (Nat.le_zero.1 hv.hc) _ hv.lt) _ ⟨rfl,by rw [visF_z];exact look_vis _ _ _ _ _ _⟩
   · cases h
 · cases h
set_option maxRecDepth 100000 in
theorem e_visS (m:Nat) (e:EntryW Tryd.prog anyWorld 43 (sp_vis m)):EntryW Tryd.prog anyWorld 43 (sp_vis (m + 1)):=by
 refine .of_FI (CI_n.withW (.cons e .nil)) (by kernel_rfl) Tryd.func43 (by kernel_rfl) (by kernel_rfl) (fun args ch c v ups h hc=> ?_)
 unfold sp_vis at h
 split at h
 · split at h
   · rename_i h1 h2
     cases h
     obtain ⟨⟨rfl,rfl,rfl,rfl,rfl,rfl⟩,⟨rfl,rfl,rfl,rfl,rfl⟩,⟨rfl,rfl,rfl,rfl⟩,⟨rfl,rfl,rfl,rfl,rfl,rfl,rfl,rfl⟩,hy,hg,hv⟩:=hc
     obtain rfl:=Nat.eq_of_beq_eq_true h1
     obtain rfl:=Nat.eq_of_beq_eq_true h2
     revert hy hg hv
     generalize inOf _=x
     generalize bOf _=g
     rintro rfl rfl hv
     exact vis_FI m _ _ _ x g _ hv _ ⟨rfl,look_vis _ _ _ _ _ _⟩
   · cases h
 · cases h
theorem e_vis:∀ m,EntryW Tryd.prog anyWorld 43 (sp_vis m)
 | 0=>e_vis0
 | m + 1=>e_visS m (e_vis m)
end Go.Proofs.YthkgakelgdncjaaDoor
