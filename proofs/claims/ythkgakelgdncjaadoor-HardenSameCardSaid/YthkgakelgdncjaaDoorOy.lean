/- Chapter 04: the document's Check: what it answers. Conditions: as typed. -/
import Derived.Test.YthkgakelgdncjaaDoorOb
import Derived.Test.YthkgakelgdncjaaDoorOq
namespace Go.Proofs.YthkgakelgdncjaaDoor
open Go.Ep Go.RowKit
set_option linter.unusedVariables false
set_option linter.unusedSimpArgs false
noncomputable abbrev FSr:List (Nat×Func):=[(28,Tryd.f28)]
theorem fs_r:FsOK Tryd.prog FSr:=FsOK.cons Tryd.func28 (by kernel_rfl) (by kernel_rfl) FsOK.nil
noncomputable abbrev C_r:Table:=tabMI Tryd.prog noData tb_o ms_o3 FSr 3
theorem CI_r:CSound Tryd.prog anyWorld C_r:=CSound.tabMI CM_o3 (by kernel_rfl) fs_r 3
theorem cases_of {x:IT} {n k:Nat} {g:Nat→Bool} (W:WaysOK x n) (h0:0<n) (hled:LedOK x g) (hk:k≤n) :
 g (BitVec.ofNat 64 k).toNat=false ∨
 (g (BitVec.ofNat 64 k).toNat=true∧endB (x (BitVec.ofNat 64 k).toNat).o=true∧succ x k=[]) ∨
 (g (BitVec.ofNat 64 k).toNat=true∧endB (x (BitVec.ofNat 64 k).toNat).o=false∧alwB (x (BitVec.ofNat 64 k).toNat).o=true∧jmpB (x (BitVec.ofNat 64 k).toNat).o=true∧(0#64).sle (toK x k)=true∧(toK x k).slt (BitVec.ofNat 64 n)=true∧(0≤(toK x k).toInt∧(toK x k).toNat<n)∧succ x k=[(toK x k).toNat]) ∨
 (g (BitVec.ofNat 64 k).toNat=true∧endB (x (BitVec.ofNat 64 k).toNat).o=false∧alwB (x (BitVec.ofNat 64 k).toNat).o=false∧jmpB (x (BitVec.ofNat 64 k).toNat).o=true∧(BitVec.ofNat 64 k + szV (x (BitVec.ofNat 64 k).toNat).o).slt (BitVec.ofNat 64 n)=true∧(0≤(BitVec.ofNat 64 k + szV (x (BitVec.ofNat 64 k).toNat).o).toInt∧(BitVec.ofNat 64 k + szV (x (BitVec.ofNat 64 k).toNat).o).toNat<n) ∧
   (0#64).sle (toK x k)=true∧(toK x k).slt (BitVec.ofNat 64 n)=true∧(0≤(toK x k).toInt∧(toK x k).toNat<n)∧succ x k=[(BitVec.ofNat 64 k + szV (x (BitVec.ofNat 64 k).toNat).o).toNat,(toK x k).toNat]) ∨
 (g (BitVec.ofNat 64 k).toNat=true∧endB (x (BitVec.ofNat 64 k).toNat).o=false∧alwB (x (BitVec.ofNat 64 k).toNat).o=false∧jmpB (x (BitVec.ofNat 64 k).toNat).o=false∧(BitVec.ofNat 64 k + szV (x (BitVec.ofNat 64 k).toNat).o).slt (BitVec.ofNat 64 n)=true∧(0≤(BitVec.ofNat 64 k + szV (x (BitVec.ofNat 64 k).toNat).o).toInt∧(BitVec.ofNat 64 k + szV (x (BitVec.ofNat 64 k).toNat).o).toNat<n) ∧
   succ x k=[(BitVec.ofNat 64 k + szV (x (BitVec.ofNat 64 k).toNat).o).toNat]):=by
 have hn:=W.small
 have ek:(BitVec.ofNat 64 k).toNat=k:=nat8 hn hk
 have hfall:BitVec.ofNat 64 k + szV (x k).o=BitVec.ofNat 64 (k + szN (x k).o):=by rw [szV_nat];exact (BitVec.ofNat_add _ _).symm
 have etv:toV x (bv k)=toK x k:=rfl
 rw [ek]
 cases hg:g k with
 | false=>exact .inl rfl
 | true=>
   obtain ⟨hlt,hh⟩:=reach_lt W h0 (hled.2 k hg)
   have fall:∀ (he:endB (x k).o=false) (ha:alwB (x k).o=false),(BitVec.ofNat 64 k + szV (x k).o).slt (BitVec.ofNat 64 n)=true∧(0≤(BitVec.ofNat 64 k + szV (x k).o).toInt∧(BitVec.ofNat 64 k + szV (x k).o).toNat<n)∧(BitVec.ofNat 64 k + szV (x k).o).toNat=k + szN (x k).o:=fun he ha=>by
    have hf:=fall_lt W hlt hh he ha
    rw [hfall,slt_nat (by omega) (by omega)]
    exact ⟨decide_eq_true hf,ix_ofNat (by omega) hf,nat_ofNat (by omega)⟩
   have jump:∀ (hj:jmpB (x k).o=true),(0#64).sle (toK x k)=true∧(toK x k).slt (BitVec.ofNat 64 n)=true∧(0≤(toK x k).toInt∧(toK x k).toNat<n):=fun hj=>by
    obtain ⟨h1,-,h3,h4⟩:=toV_lt W hlt hh hj
    rw [etv] at h1 h3 h4
    have ht:=to_in hn h3 h4
    have ev:toK x k=BitVec.ofNat 64 (toK x k).toNat:=by rw [BitVec.ofNat_toNat,BitVec.setWidth_eq]
    refine ⟨?_,?_,ht⟩
    · rw [ev];exact (sle_nat (a:=0) (by decide) (by omega)).trans (decide_eq_true (Nat.zero_le _))
    · rw [ev,slt_nat (by omega) (by omega)];exact decide_eq_true h1
   right
   cases he:endB (x k).o with
   | true=>exact .inl ⟨rfl,rfl,by rw [succ,he];rfl⟩
   | false=>
     right
     cases ha:alwB (x k).o with
     | true=>
       have hj:jmpB (x k).o=true:=by simp only [alwB,Bool.and_eq_true] at ha;exact ha.1
       obtain ⟨j1,j2,j3⟩:=jump hj
       exact .inl ⟨rfl,rfl,rfl,hj,j1,j2,j3,by rw [succ,he,ha,etv];rfl⟩
     | false=>
       right
       obtain ⟨f1,f2,f3⟩:=fall he ha
       cases hj:jmpB (x k).o with
       | true=>
         obtain ⟨j1,j2,j3⟩:=jump hj
         exact .inl ⟨rfl,rfl,rfl,rfl,f1,f2,j1,j2,j3,by rw [f3,succ,he,ha,hj,etv];rfl⟩
       | false=>exact .inr ⟨rfl,rfl,rfl,rfl,f1,f2,by rw [f3,succ,he,ha,hj];rfl⟩
theorem if0' {α:Type} (a b:α):(if 1≤(0#64).toNat then a else b)=b:=if_neg (by decide)
theorem if1' {α:Type} (a b:α):(if 1≤(0#64 + 1#64).toNat then a else b)=a:=if_pos (by decide)
theorem or2_t {b c:Bool} (h:b=true):true=((false||b)||c):=by rw [h];rfl
theorem or2_f {b c:Bool} (h:b=false):c=((false||b)||c):=by rw [h];rfl
theorem at_k {x:IT} {n k:Nat} {g:Nat→Bool} {b:Bool} (hn:n≤8000) (hk:k≤n) (h:g (BitVec.ofNat 64 k).toNat=b):g k=b:=by rwa [nat8 hn hk] at h
theorem big_lt {a:Nat} (h:a<65536):a<9223372036854775808:=by omega
theorem cap_lt {a:Nat} (h:a<65535):a + 1<65536:=by omega
theorem k_neg {n k:Nat} (hn:n≤8000) (hk:k≤n):(BitVec.ofNat 64 k).slt 0#64=false:=(slt_nat (b:=0) (by omega) (by decide)).trans (decide_eq_false (by omega))
theorem k_in {n k:Nat} (hn:n≤8000) (hk:k≤n) (h:(BitVec.ofNat 64 k).slt (BitVec.ofNat 64 n)=true):(BitVec.ofNat 64 n).sle (BitVec.ofNat 64 k)=false:=by
 rw [slt_nat (by omega) (by omega)] at h
 rw [sle_nat (by omega) (by omega)]
 exact decide_eq_false (by have:=of_decide_eq_true h;omega)
theorem ix00 {n:Nat} (hn:n≤8000) (h0:0<n):0≤(0#64).toInt∧(0#64).toNat<(BitVec.ofNat 64 n).toNat:=⟨by decide,by rw [nat8 hn (Nat.le_refl _)];exact h0⟩
theorem wz {x:IT} {n k:Nat} {b:Bool} (hn:n≤8000) (hk:k<n) (h:(wayE (inOf (inF x)) n (BitVec.ofNat 64 k) != 0#64)=b):(wayE x n (BitVec.ofNat 64 k) != 0#64)=b:=h
theorem ansW' {x:IT} {n k:Nat} {m:BitVec 64} {w:Bool} (hn:¬ (n=0∨mostN w<n)) (hA:∀ j,j<n→badA x n m w j=false) (hk:k<n) (hh:hf x k=false) (hb:(wayE (inOf (inF x)) n (BitVec.ofNat 64 k) != 0#64)=true)
 (hj:∀ j,j<k→badW x n j=false):AV.tup [(false,[.b64 true (BitVec.ofNat 64 k)]),(false,[.b64 true (wayE (inOf (inF x)) n (BitVec.ofNat 64 k))])]=ansC x n m w:=ans_W hn hA hk hh rfl hb hj
theorem bad_R' {x:IT} {n k:Nat} (hn:n≤8000) (hk:k<n) (hh:hf x k=false) (h2:(!reachB x (BitVec.ofNat 64 k).toNat)=true):(!hf x k&& !reachB x k)=true:=by rw [hh,rd_R hn hk h2];rfl
theorem rr_ok {x:IT} {n k:Nat} (hn:n≤8000) (hk:k<n) (h:(!reachB x (BitVec.ofNat 64 k).toNat)=false):(!hf x k&& !reachB x k)=false:=ok_R hn hk h
set_option maxRecDepth 100000 in
set_option maxHeartbeats 32000000 in
theorem Ref_ (w:Bool) (T:TypeId) (len cap:Nat) (x:IT) (m:BitVec 64) (hl:len≤8000) (h0:0<len) (hn:¬ (len=0∨mostN w<len)) (f0:(BitVec.ofNat 64 len).slt 1#64=false) (f1:(192#64).slt (BitVec.ofNat 64 len)=false) (f2:w=false→(64#64).slt (BitVec.ofNat 64 len)=false) :
 FI Tryd.prog C_r Tryd.f11 1 [.one (.slc 0 0 len cap),.one (.b64 true m),.one (.bool w)] [(0,.ro T [.seg 5 len (inF x)])] (fun r _=>r=ansC x len m w):=by
 obtain ⟨v1,v2,v3,v4,v5,hv1,hv2,hv3,hv4,hv5⟩:∃ a b c d e:Bool,a=w∧b=w∧c=w∧d=w∧e=w:=⟨_,_,_,_,_,rfl,rfl,rfl,rfl,rfl⟩
 cases w
 all_goals (try replace f2:=f2 rfl)
 all_goals as_aux_lemma=>
  repeat' (first
   | (with_reducible apply Given.mk;intro h;(try (have b1:=first_ge hl q1.1.2 h));(try (have b2:=first_ge hl q2.1.2 h));(try (have e4:len=k:=ge8k hl q4.le h;subst e4));(try (have k0:=k_neg hl q4.le));(try (have kl:=k_in hl q4.le h));(try (have b5:=first_ge hl q5.1.2 h));(try simp only [f0,f1,f2,BitVec.reduceBNe,BitVec.reduceBEq,reduceCtorEq,Bool.true_eq_false,Bool.false_eq_true,Bool.not_true,Bool.not_false] at h);(try ((fail_if_success (have _q:=q1));exact absurd h (by decide)));(try simp only [inOf_inF,k0,Bool.not_true,Bool.not_false,Bool.true_eq_false,Bool.false_eq_true,if0',if1',ite_self,reduceCtorEq] at h);(try simp only [inOf_inF,kl,Bool.not_true,Bool.not_false,Bool.true_eq_false,Bool.false_eq_true,if0',if1',ite_self,reduceCtorEq] at h);(try simp only [inOf_inF,c,Bool.not_true,Bool.not_false,Bool.true_eq_false,Bool.false_eq_true,if0',if1',ite_self,reduceCtorEq] at h);(try simp only [inOf_inF,he,Bool.not_true,Bool.not_false,Bool.true_eq_false,Bool.false_eq_true,if0',if1',ite_self,reduceCtorEq] at h);(try simp only [inOf_inF,ha,Bool.not_true,Bool.not_false,Bool.true_eq_false,Bool.false_eq_true,if0',if1',ite_self,reduceCtorEq] at h);(try simp only [inOf_inF,hj,Bool.not_true,Bool.not_false,Bool.true_eq_false,Bool.false_eq_true,if0',if1',ite_self,reduceCtorEq] at h);(try simp only [inOf_inF,n1,Bool.not_true,Bool.not_false,Bool.true_eq_false,Bool.false_eq_true,if0',if1',ite_self,reduceCtorEq] at h);(try simp only [inOf_inF,t0,Bool.not_true,Bool.not_false,Bool.true_eq_false,Bool.false_eq_true,if0',if1',ite_self,reduceCtorEq] at h);(try simp only [inOf_inF,t1,Bool.not_true,Bool.not_false,Bool.true_eq_false,Bool.false_eq_true,if0',if1',ite_self,reduceCtorEq] at h);(try ((have _q:=q4);(first | exact absurd (show (0#64).slt 0#64=true from h) (by decide) | exact absurd (show (0#64).slt 1#64=false from h) (by decide) | exact absurd (show (0#64).slt 2#64=false from h) (by decide) | exact absurd (show (0#64 + 1#64).slt 0#64=true from h) (by decide) | exact absurd (show (0#64 + 1#64).slt 1#64=true from h) (by decide) | exact absurd (show (0#64 + 1#64).slt 2#64=false from h) (by decide) | exact absurd (show (0#64 + 1#64 + 1#64).slt 0#64=true from h) (by decide) | exact absurd (show (0#64 + 1#64 + 1#64).slt 1#64=true from h) (by decide) | exact absurd (show (0#64 + 1#64 + 1#64).slt 2#64=true from h) (by decide) |  skip))))
   | ((conv=>whnf);first
     | with_reducible apply Both.mk
     | ((fail_if_success (have _q:=q1));refine LoopP.mk (Nat) (fun a=>(hf x a=false∧a≤len + 1)∧∀ j,j<a→badA x len m v1 j=false) ((fun a=>mkS (Tryd.f11).ntmps [(0,.one (.slc 0 0 len cap)),(1,.one (.b64 true m)),(2,.one (.bool v1)),(8,iN a)] [(0,.ro T [.seg 5 len (inF x)])])) (fun a=>len + 2 - a) ⟨0,⟨⟨rfl,Nat.zero_le _⟩,fun j hj=>absurd hj (by omega)⟩,⟨?_,?_,?_,?_,?_⟩⟩ ?_<;>(try subst hv1);(iterate 2 (focus ((repeat' ((conv=>whnf);first | exact trivial | refine Both.mk (by first | with_reducible rfl | exact iN_succ _ | rfl) ?_));done)));(iterate 3 (focus exact rfl));(rintro a1 q1))
     | ((have _q:=q1);(fail_if_success (have _q:=q2));refine LoopP.mk (Nat) (fun a=>(hf x a=false∧a≤len + 1)∧∀ j,j<a→badW x len j=false) ((fun a=>mkS (Tryd.f11).ntmps [(0,.one (.slc 0 0 len cap)),(1,.one (.b64 true m)),(2,.one (.bool v2)),(10,iN a)] [(0,.ro T [.seg 5 len (inF x)])])) (fun a=>len + 2 - a) ⟨0,⟨⟨rfl,Nat.zero_le _⟩,fun j hj=>absurd hj (by omega)⟩,⟨?_,?_,?_,?_,?_⟩⟩ ?_<;>(try subst hv2);(iterate 2 (focus ((repeat' ((conv=>whnf);first | exact trivial | refine Both.mk (by first | with_reducible rfl | exact iN_succ _ | rfl) ?_));done)));(iterate 3 (focus exact rfl));(rintro a2 q2))
     | ((have _q:=q2);(fail_if_success (have _q:=q3));have Wy:=ways_of hl (below q2.2 b2);refine LoopP.mk ((Nat→Bool)×Bool) (fun y=>Outer x len y.1 y.2) ((fun y=>mkS (Tryd.f11).ntmps [(0,.one (.slc 0 0 len cap)),(1,.one (.b64 true m)),(2,.one (.bool v3)),(12,.one (.rsl 68 len)),(13,.one (.bool y.2))] [(68,.row 4 1 len (bF y.1)),(0,.ro T [.seg 5 len (inF x)])])) (fun y=>2*cnt y.1 len + y.2.toNat) ⟨(mark (fun _=>false) 0,true),⟨LedOK.start x,fun e=>by cases e⟩,⟨?_,?_,?_,?_,?_⟩⟩ ?_<;>(try subst hv3);(iterate 2 (focus ((repeat' ((conv=>whnf);first | exact trivial | refine Both.mk (by first | with_reducible rfl | exact iN_succ _ | (rw [nat8 hl (Nat.le_refl _)];exact congrArg (Blk.row 4 1 len) (bF_upd (fun _=>false) 0 true)) | (rw [nat8 hl (Nat.le_refl _)]) | rfl) ?_));done)));(iterate 3 (focus exact rfl));(rintro ⟨g,_ | _⟩ q3<;>dsimp only at q3))
     | ((have _q:=q3);(fail_if_success (have _q:=q4));(fail_if_success (have _q:=q5));(with_reducible have _o:Outer x len _ true:=q3);refine LoopP.mk ((Nat→Bool)×Bool×Nat) (fun y=>Inner x len g y.1 y.2.1 y.2.2) ((fun y=>mkS (Tryd.f11).ntmps [(0,.one (.slc 0 0 len cap)),(1,.one (.b64 true m)),(2,.one (.bool v4)),(12,.one (.rsl 68 len)),(13,.one (.bool y.2.1)),(14,iN y.2.2)] [(68,.row 4 1 len (bF y.1)),(0,.ro T [.seg 5 len (inF x)])])) (fun y=>len - y.2.2) ⟨(g,false,0),Inner.start q3.led,⟨?_,?_,?_,?_,?_⟩⟩ ?_<;>(try subst hv4);(iterate 2 (focus ((repeat' ((conv=>whnf);first | exact trivial | refine Both.mk (by first | with_reducible rfl | exact iN_succ _ | rfl) ?_));done)));(iterate 3 (focus exact rfl));(rintro ⟨g',_ | _,k⟩ q4<;>dsimp only at q4<;>rcases cases_of Wy h0 q4.led q4.le with c | ⟨c,he,hs⟩ | ⟨c,he,ha,hj,t0,t1,t2,hs⟩ | ⟨c,he,ha,hj,n1,n2,t0,t1,t2,hs⟩ | ⟨c,he,ha,hj,n1,n2,hs⟩))
     | ((have _q:=q4);refine LoopP.times 4 ?_)
     | ((have _q:=q3);(fail_if_success (have _q:=q4));(fail_if_success (have _q:=q5));refine LoopP.mk (Nat) (fun a=>(hf x a=false∧a≤len + 1)∧∀ j,j<a→(!hf x j&& !reachB x j)=false) ((fun a=>mkS (Tryd.f11).ntmps [(0,.one (.slc 0 0 len cap)),(1,.one (.b64 true m)),(2,.one (.bool v5)),(12,.one (.rsl 68 len)),(17,iN a)] [(68,.row 4 1 len (bF (reachB x))),(0,.ro T [.seg 5 len (inF x)])])) (fun a=>len + 2 - a) ⟨0,⟨⟨rfl,Nat.zero_le _⟩,fun j hj=>absurd hj (by omega)⟩,⟨?_,?_,?_,?_,?_⟩⟩ ?_<;>(try subst hv5);(iterate 2 (focus ((repeat' ((conv=>whnf);first | exact trivial | refine Both.mk (by first | with_reducible rfl | exact iN_succ _ | exact congrArg (fun g=>Blk.row 4 1 len (bF g)) (Outer.done Wy h0 q3) | rfl) ?_));done)));(iterate 3 (focus exact rfl));(rintro a5 q5))))
  all_goals first
   | ((with_reducible apply Ob.mk);(with_reducible apply cap_lt);decide)
   | (with_reducible apply Ob.mk;kernel_rfl)
   | ((with_reducible apply Ob.mk);show len<9223372036854775808;omega)
   | ((have _q:=q4);(with_reducible apply Ob.mk);(with_reducible apply big_lt);decide)
   | ((with_reducible apply Ob.mk);exact ⟨rfl,(by rw [nat8 hl (Nat.le_refl _)];omega)⟩)
   | ((fail_if_success (have _q:=q4));(with_reducible apply Ob.mk);exact ix_ofNat (by have:=q5.1.2;omega) (first_lt hl q5.1.2 (by with_reducible assumption)))
   | ((fail_if_success (have _q:=q4));(with_reducible apply Ob.mk);exact (ix_ofNat (by have:=q5.1.2;omega) (first_lt hl q5.1.2 (by with_reducible assumption))).2)
   | ((fail_if_success (have _q:=q4));(with_reducible apply Ob.mk);exact ⟨Nat.le_refl _,hl,rfl,(ix_ofNat (by have:=q5.1.2;omega) (first_lt hl q5.1.2 (by with_reducible assumption))).2⟩)
   | ((fail_if_success (have _q:=q4));((conv=>whnf);refine ⟨a5 + szN (x a5).o,⟨first_go hl q5.1 (first_lt hl q5.1.2 (by with_reducible assumption)),to_next q5.2 (by first | exact rr_ok hl (first_lt hl q5.1.2 (by with_reducible assumption)) (by with_reducible assumption)) q5.1.1 (fun j hj=>badR_half hj)⟩,(by have:=sz_pos (x a5).o;have:=(first_lt hl q5.1.2 (by with_reducible assumption));show len + 2 - (a5 + szN (x a5).o)<len + 2 - a5;omega),⟨?_,?_,?_,?_,?_⟩⟩;(iterate 2 (focus ((repeat' ((conv=>whnf);first | exact trivial | refine Both.mk (by first | with_reducible rfl | exact iN_succ _ | exact next_nx (nat_ofNat (by have:=q5.1.2;omega)) | rfl) ?_));done)));(iterate 3 (focus exact rfl))))
   | ((fail_if_success (have _q:=q4));(with_reducible apply Ob.mk);exact ix_ofNat (by have:=q2.1.2;omega) (first_lt hl q2.1.2 (by with_reducible assumption)))
   | ((fail_if_success (have _q:=q4));(with_reducible apply Ob.mk);exact (ix_ofNat (by have:=q2.1.2;omega) (first_lt hl q2.1.2 (by with_reducible assumption))).2)
   | ((fail_if_success (have _q:=q4));(with_reducible apply Ob.mk);exact ⟨Nat.le_refl _,hl,rfl,(ix_ofNat (by have:=q2.1.2;omega) (first_lt hl q2.1.2 (by with_reducible assumption))).2⟩)
   | ((fail_if_success (have _q:=q4));((conv=>whnf);refine ⟨a2 + szN (x a2).o,⟨first_go hl q2.1 (first_lt hl q2.1.2 (by with_reducible assumption)),to_next q2.2 (by exact ok_W q2.1.1 rfl (wz hl (first_lt hl q2.1.2 (by with_reducible assumption)) (by with_reducible assumption))) q2.1.1 (fun j hj=>badW_half hj)⟩,(by have:=sz_pos (x a2).o;have:=(first_lt hl q2.1.2 (by with_reducible assumption));show len + 2 - (a2 + szN (x a2).o)<len + 2 - a2;omega),⟨?_,?_,?_,?_,?_⟩⟩;(iterate 2 (focus ((repeat' ((conv=>whnf);first | exact trivial | refine Both.mk (by first | with_reducible rfl | exact iN_succ _ | exact next_nx (nat_ofNat (by have:=q2.1.2;omega)) | rfl) ?_));done)));(iterate 3 (focus exact rfl))))
   | ((fail_if_success (have _q:=q4));(with_reducible apply Ob.mk);exact ix_ofNat (by have:=q1.1.2;omega) (first_lt hl q1.1.2 (by with_reducible assumption)))
   | ((fail_if_success (have _q:=q4));(with_reducible apply Ob.mk);exact (ix_ofNat (by have:=q1.1.2;omega) (first_lt hl q1.1.2 (by with_reducible assumption))).2)
   | ((fail_if_success (have _q:=q4));(with_reducible apply Ob.mk);exact ⟨Nat.le_refl _,hl,rfl,(ix_ofNat (by have:=q1.1.2;omega) (first_lt hl q1.1.2 (by with_reducible assumption))).2⟩)
   | ((fail_if_success (have _q:=q4));((conv=>whnf);refine ⟨a1 + szN (x a1).o,⟨first_go hl q1.1 (first_lt hl q1.1.2 (by with_reducible assumption)),to_next q1.2 (by exact ok_A' q1.1.1 (by with_reducible assumption)) q1.1.1 (fun j hj=>badA_half hj)⟩,(by have:=sz_pos (x a1).o;have:=(first_lt hl q1.1.2 (by with_reducible assumption));show len + 2 - (a1 + szN (x a1).o)<len + 2 - a1;omega),⟨?_,?_,?_,?_,?_⟩⟩;(iterate 2 (focus ((repeat' ((conv=>whnf);first | exact trivial | refine Both.mk (by first | with_reducible rfl | exact iN_succ _ | exact next_nx (nat_ofNat (by have:=q1.1.2;omega)) | rfl) ?_));done)));(iterate 3 (focus exact rfl))))
   | ((fail_if_success (have _q:=q4));(conv=>whnf);exact ans_of (chk_A hn (first_lt hl q1.1.2 (by with_reducible assumption)) (ok_A' q1.1.1 (by with_reducible assumption)) q1.2))
   | ((fail_if_success (have _q:=q4));(conv=>whnf);exact ansW' hn (below q1.2 b1) (first_lt hl q2.1.2 (by with_reducible assumption)) q2.1.1 (by with_reducible assumption) q2.2)
   | ((conv=>whnf);refine ⟨(mark (mark g' (BitVec.ofNat 64 k + szV (x (BitVec.ofNat 64 k).toNat).o).toNat) (toK x k).toNat,((true|| !g' (BitVec.ofNat 64 k + szV (x (BitVec.ofNat 64 k).toNat).o).toNat)|| !mark g' (BitVec.ofNat 64 k + szV (x (BitVec.ofNat 64 k).toNat).o).toNat (toK x k).toNat),k + 1),Inner.next2 Wy h0 q4 (lt8k hl q4.le (by with_reducible assumption)) (at_k (x:=x) hl q4.le c) hs,(by have:=(lt8k hl q4.le (by with_reducible assumption));show len - (k + 1)<len - k;omega),⟨?_,?_,?_,?_,?_⟩⟩;(iterate 2 (focus ((repeat' ((conv=>whnf);first | exact trivial | refine Both.mk (by first | with_reducible rfl | exact iN_succ _ | exact congrArg (Blk.row 4 1 len) (bF_upd _ _ _) | (simp only [if0',if1'];rw [bF_upd];done) | (simp only [if0',if1'];rw [bF_upd,bF_upd];rfl) | exact congrArg (fun b=>AV.one (.bool b)) (or2_t (by with_reducible assumption)) | exact congrArg (fun b=>AV.one (.bool b)) (or2_f (by with_reducible assumption)) | rfl) ?_));done)));(iterate 3 (focus exact rfl)))
   | ((conv=>whnf);refine ⟨(mark g' (toK x k).toNat,(true|| !g' (toK x k).toNat),k + 1),Inner.next1 Wy h0 q4 (lt8k hl q4.le (by with_reducible assumption)) (at_k (x:=x) hl q4.le c) hs,(by have:=(lt8k hl q4.le (by with_reducible assumption));show len - (k + 1)<len - k;omega),⟨?_,?_,?_,?_,?_⟩⟩;(iterate 2 (focus ((repeat' ((conv=>whnf);first | exact trivial | refine Both.mk (by first | with_reducible rfl | exact iN_succ _ | exact congrArg (Blk.row 4 1 len) (bF_upd _ _ _) | (simp only [if0',if1'];rw [bF_upd];done) | (simp only [if0',if1'];rw [bF_upd,bF_upd];rfl) | exact congrArg (fun b=>AV.one (.bool b)) (or2_t (by with_reducible assumption)) | exact congrArg (fun b=>AV.one (.bool b)) (or2_f (by with_reducible assumption)) | rfl) ?_));done)));(iterate 3 (focus exact rfl)))
   | ((conv=>whnf);refine ⟨(mark g' (BitVec.ofNat 64 k + szV (x (BitVec.ofNat 64 k).toNat).o).toNat,(true|| !g' (BitVec.ofNat 64 k + szV (x (BitVec.ofNat 64 k).toNat).o).toNat),k + 1),Inner.next1 Wy h0 q4 (lt8k hl q4.le (by with_reducible assumption)) (at_k (x:=x) hl q4.le c) hs,(by have:=(lt8k hl q4.le (by with_reducible assumption));show len - (k + 1)<len - k;omega),⟨?_,?_,?_,?_,?_⟩⟩;(iterate 2 (focus ((repeat' ((conv=>whnf);first | exact trivial | refine Both.mk (by first | with_reducible rfl | exact iN_succ _ | exact congrArg (Blk.row 4 1 len) (bF_upd _ _ _) | (simp only [if0',if1'];rw [bF_upd];done) | (simp only [if0',if1'];rw [bF_upd,bF_upd];rfl) | exact congrArg (fun b=>AV.one (.bool b)) (or2_t (by with_reducible assumption)) | exact congrArg (fun b=>AV.one (.bool b)) (or2_f (by with_reducible assumption)) | rfl) ?_));done)));(iterate 3 (focus exact rfl)))
   | ((conv=>whnf);refine ⟨(g',true,k + 1),Inner.next0 q4 (lt8k hl q4.le (by with_reducible assumption)) (.inr hs),(by have:=(lt8k hl q4.le (by with_reducible assumption));show len - (k + 1)<len - k;omega),⟨?_,?_,?_,?_,?_⟩⟩;(iterate 2 (focus ((repeat' ((conv=>whnf);first | exact trivial | refine Both.mk (by first | with_reducible rfl | exact iN_succ _ | exact congrArg (Blk.row 4 1 len) (bF_upd _ _ _) | (simp only [if0',if1'];rw [bF_upd];done) | (simp only [if0',if1'];rw [bF_upd,bF_upd];rfl) | exact congrArg (fun b=>AV.one (.bool b)) (or2_t (by with_reducible assumption)) | exact congrArg (fun b=>AV.one (.bool b)) (or2_f (by with_reducible assumption)) | rfl) ?_));done)));(iterate 3 (focus exact rfl)))
   | ((conv=>whnf);refine ⟨(g',true,k + 1),Inner.next0 q4 (lt8k hl q4.le (by with_reducible assumption)) (.inl (at_k (x:=x) hl q4.le c)),(by have:=(lt8k hl q4.le (by with_reducible assumption));show len - (k + 1)<len - k;omega),⟨?_,?_,?_,?_,?_⟩⟩;(iterate 2 (focus ((repeat' ((conv=>whnf);first | exact trivial | refine Both.mk (by first | with_reducible rfl | exact iN_succ _ | exact congrArg (Blk.row 4 1 len) (bF_upd _ _ _) | (simp only [if0',if1'];rw [bF_upd];done) | (simp only [if0',if1'];rw [bF_upd,bF_upd];rfl) | exact congrArg (fun b=>AV.one (.bool b)) (or2_t (by with_reducible assumption)) | exact congrArg (fun b=>AV.one (.bool b)) (or2_f (by with_reducible assumption)) | rfl) ?_));done)));(iterate 3 (focus exact rfl)))
   | ((conv=>whnf);refine ⟨(mark (mark g' (BitVec.ofNat 64 k + szV (x (BitVec.ofNat 64 k).toNat).o).toNat) (toK x k).toNat,((false|| !g' (BitVec.ofNat 64 k + szV (x (BitVec.ofNat 64 k).toNat).o).toNat)|| !mark g' (BitVec.ofNat 64 k + szV (x (BitVec.ofNat 64 k).toNat).o).toNat (toK x k).toNat),k + 1),Inner.next2 Wy h0 q4 (lt8k hl q4.le (by with_reducible assumption)) (at_k (x:=x) hl q4.le c) hs,(by have:=(lt8k hl q4.le (by with_reducible assumption));show len - (k + 1)<len - k;omega),⟨?_,?_,?_,?_,?_⟩⟩;(iterate 2 (focus ((repeat' ((conv=>whnf);first | exact trivial | refine Both.mk (by first | with_reducible rfl | exact iN_succ _ | exact congrArg (Blk.row 4 1 len) (bF_upd _ _ _) | (simp only [if0',if1'];rw [bF_upd];done) | (simp only [if0',if1'];rw [bF_upd,bF_upd];rfl) | exact congrArg (fun b=>AV.one (.bool b)) (or2_t (by with_reducible assumption)) | exact congrArg (fun b=>AV.one (.bool b)) (or2_f (by with_reducible assumption)) | rfl) ?_));done)));(iterate 3 (focus exact rfl)))
   | ((conv=>whnf);refine ⟨(mark g' (toK x k).toNat,(false|| !g' (toK x k).toNat),k + 1),Inner.next1 Wy h0 q4 (lt8k hl q4.le (by with_reducible assumption)) (at_k (x:=x) hl q4.le c) hs,(by have:=(lt8k hl q4.le (by with_reducible assumption));show len - (k + 1)<len - k;omega),⟨?_,?_,?_,?_,?_⟩⟩;(iterate 2 (focus ((repeat' ((conv=>whnf);first | exact trivial | refine Both.mk (by first | with_reducible rfl | exact iN_succ _ | exact congrArg (Blk.row 4 1 len) (bF_upd _ _ _) | (simp only [if0',if1'];rw [bF_upd];done) | (simp only [if0',if1'];rw [bF_upd,bF_upd];rfl) | exact congrArg (fun b=>AV.one (.bool b)) (or2_t (by with_reducible assumption)) | exact congrArg (fun b=>AV.one (.bool b)) (or2_f (by with_reducible assumption)) | rfl) ?_));done)));(iterate 3 (focus exact rfl)))
   | ((conv=>whnf);refine ⟨(mark g' (BitVec.ofNat 64 k + szV (x (BitVec.ofNat 64 k).toNat).o).toNat,(false|| !g' (BitVec.ofNat 64 k + szV (x (BitVec.ofNat 64 k).toNat).o).toNat),k + 1),Inner.next1 Wy h0 q4 (lt8k hl q4.le (by with_reducible assumption)) (at_k (x:=x) hl q4.le c) hs,(by have:=(lt8k hl q4.le (by with_reducible assumption));show len - (k + 1)<len - k;omega),⟨?_,?_,?_,?_,?_⟩⟩;(iterate 2 (focus ((repeat' ((conv=>whnf);first | exact trivial | refine Both.mk (by first | with_reducible rfl | exact iN_succ _ | exact congrArg (Blk.row 4 1 len) (bF_upd _ _ _) | (simp only [if0',if1'];rw [bF_upd];done) | (simp only [if0',if1'];rw [bF_upd,bF_upd];rfl) | exact congrArg (fun b=>AV.one (.bool b)) (or2_t (by with_reducible assumption)) | exact congrArg (fun b=>AV.one (.bool b)) (or2_f (by with_reducible assumption)) | rfl) ?_));done)));(iterate 3 (focus exact rfl)))
   | ((conv=>whnf);refine ⟨(g',false,k + 1),Inner.next0 q4 (lt8k hl q4.le (by with_reducible assumption)) (.inr hs),(by have:=(lt8k hl q4.le (by with_reducible assumption));show len - (k + 1)<len - k;omega),⟨?_,?_,?_,?_,?_⟩⟩;(iterate 2 (focus ((repeat' ((conv=>whnf);first | exact trivial | refine Both.mk (by first | with_reducible rfl | exact iN_succ _ | exact congrArg (Blk.row 4 1 len) (bF_upd _ _ _) | (simp only [if0',if1'];rw [bF_upd];done) | (simp only [if0',if1'];rw [bF_upd,bF_upd];rfl) | exact congrArg (fun b=>AV.one (.bool b)) (or2_t (by with_reducible assumption)) | exact congrArg (fun b=>AV.one (.bool b)) (or2_f (by with_reducible assumption)) | rfl) ?_));done)));(iterate 3 (focus exact rfl)))
   | ((conv=>whnf);refine ⟨(g',false,k + 1),Inner.next0 q4 (lt8k hl q4.le (by with_reducible assumption)) (.inl (at_k (x:=x) hl q4.le c)),(by have:=(lt8k hl q4.le (by with_reducible assumption));show len - (k + 1)<len - k;omega),⟨?_,?_,?_,?_,?_⟩⟩;(iterate 2 (focus ((repeat' ((conv=>whnf);first | exact trivial | refine Both.mk (by first | with_reducible rfl | exact iN_succ _ | exact congrArg (Blk.row 4 1 len) (bF_upd _ _ _) | (simp only [if0',if1'];rw [bF_upd];done) | (simp only [if0',if1'];rw [bF_upd,bF_upd];rfl) | exact congrArg (fun b=>AV.one (.bool b)) (or2_t (by with_reducible assumption)) | exact congrArg (fun b=>AV.one (.bool b)) (or2_f (by with_reducible assumption)) | rfl) ?_));done)));(iterate 3 (focus exact rfl)))
   | ((conv=>whnf);have dn:=Inner.done q4;refine ⟨(g',true),dn.1,dn.2,⟨?_,?_,?_,?_,?_⟩⟩;(iterate 2 (focus ((repeat' ((conv=>whnf);first | exact trivial | refine Both.mk (by first | with_reducible rfl | exact iN_succ _ | rfl) ?_));done)));(iterate 3 (focus exact rfl)))
   | ((conv=>whnf);have dn:=Inner.done q4;refine ⟨(g',false),dn.1,dn.2,⟨?_,?_,?_,?_,?_⟩⟩;(iterate 2 (focus ((repeat' ((conv=>whnf);first | exact trivial | refine Both.mk (by first | with_reducible rfl | exact iN_succ _ | rfl) ?_));done)));(iterate 3 (focus exact rfl)))
   | ((have _q:=q4);(with_reducible apply Ob.mk);exact ix8k hl q4.le (by with_reducible assumption))
   | ((with_reducible apply Ob.mk);exact (ix8k hl q4.le (by with_reducible assumption)).2)
   | ((with_reducible apply Ob.mk);exact ⟨Nat.le_refl _,hl,rfl,(ix8k hl q4.le (by with_reducible assumption)).2⟩)
   | ((with_reducible apply Ob.mk);(try simp only [if0',if1']);first | exact t2 | exact n2 | exact t2.2 | exact n2.2)
   | ((with_reducible apply Ob.mk);with_reducible exact (show 0≤(0#64).toInt∧(0#64).toNat<1 by decide))
   | ((with_reducible apply Ob.mk);with_reducible exact (show (0#64).toNat<1 by decide))
   | ((with_reducible apply Ob.mk);with_reducible exact (show 0≤(0#64).toInt∧(0#64).toNat<1 + 1 by decide))
   | ((with_reducible apply Ob.mk);with_reducible exact (show (0#64).toNat<1 + 1 by decide))
   | ((with_reducible apply Ob.mk);with_reducible exact (show 0≤(0#64 + 1#64).toInt∧(0#64 + 1#64).toNat<1 + 1 by decide))
   | ((with_reducible apply Ob.mk);with_reducible exact (show (0#64 + 1#64).toNat<1 + 1 by decide))
   | ((with_reducible apply Ob.mk);exact ix00 hl h0)
   | ((with_reducible apply Ob.mk);exact (ix00 hl h0).2)
   | ((with_reducible apply Ob.mk);exact fun _=>rfl)
   | ((with_reducible apply Ob.mk);exact ⟨rfl,fun _=>rfl,fun _=>rfl⟩)
   | ((fail_if_success (have _q:=q4));(conv=>whnf);exact ans_of (chk_R hn (below q1.2 b1) (below q2.2 b2) (first_lt hl q5.1.2 (by with_reducible assumption)) (bad_R' hl (first_lt hl q5.1.2 (by with_reducible assumption)) q5.1.1 (by with_reducible assumption)) q5.2))
   | ((fail_if_success (have _q:=q4));(conv=>whnf);exact ans_of (chk_0 hn (below q1.2 b1) (below q2.2 b2) (below q5.2 b5)))
   | (with_reducible apply Ob.mk;skip)
   | ((conv=>whnf);skip)
end Go.Proofs.YthkgakelgdncjaaDoor
