/- HardenSame: Step of the document's interpreter: the walk, the contract. Conditions: as typed. -/
import Derived.Test.YthkgakelgdncjaaDoorVm
namespace Go.Proofs.YthkgakelgdncjaaDoor
open Go.Ep Go.RowKit
set_option linter.unusedVariables false
set_option linter.unusedSimpArgs false
set_option maxRecDepth 100000 in
set_option maxHeartbeats 64000000 in
theorem step_ex (nm:Nat) (de lf:Bool) (hN:nm=0∨nm=1∨nm=2) (c:WC) (s:WR) (N:Nrm nm de c s) (h:s.ok c.cm c.dm) (hc:c.ok) (R:Nat→BitVec 64) (H T W D:Nat→Bool) (TL:TypeId) (n cap:Nat) (x:IT) (pc st:BitVec 64) (hn:n≤8000) (hp:pc.toNat<n) (h10:(x pc.toNat).d.toNat<11) (h11:(x pc.toNat).s.toNat<11) (q:SX) (hq:stepV nm de c x n pc ⟨R,H,T,W,D⟩ s=q):FI Tryd.prog (C_sx nm de) Tryd.f37 (skB lf TL n cap x ⟨R,H,T,W,D⟩ pc st nm de c s).length [.one (.ptr 0 0)] (skB lf TL n cap x ⟨R,H,T,W,D⟩ pc st nm de c s) (fun u g=>u= .tup [(false,[.bool q.d]),(false,[.b64 true q.e])]∧∀ jj bb,Ep.look (skB lf TL n cap x ⟨R,H,T,W,D⟩ pc st nm de c s) jj=some bb→Ep.look g jj=lookU ((0,sC q.m 2 (.slc 1 0 n cap) (.b64 true q.pc) (.b64 true (st + 1#64)))::wU nm de 2 c q.s) jj (some bb)):=by
 obtain ⟨pl,co,own,cm,dm,X,k0⟩:=c
 obtain ⟨r,k1,dk,ds,dn⟩:=s
 obtain ⟨RM,hd,hd2⟩:=h
 obtain ⟨RO,OW⟩:=hc
 rcases hN with rfl | rfl | rfl
 all_goals cases de
 all_goals (try (have e:k0=fun _=>⟨#[]⟩:=N.k0 rfl;subst e))
 all_goals (try (have e:k1=fun _=>⟨#[]⟩:=N.k1 (by decide);subst e))
 all_goals (try (have e:dm=0∧X=(fun _=>0#64)∧dk=0∧ds=0∧dn=0:=N.d rfl;obtain ⟨rfl,rfl,rfl,rfl,rfl⟩:=e))
 all_goals cases lf
 all_goals simp only [skB,wB,wU,sC,lB,List.length_cons,List.length_nil,Nat.reduceAdd,Nat.zero_add]
 all_goals repeat' (first
  | (with_reducible apply Given.mk;intro h;(try simp only [Bool.not_eq_true',Bool.not_eq_false',mOf_eq,mOf_eq',MR_eta] at h);(try exact absurd h (by decide));(try (first | exact absurd ((by with_reducible assumption:alwB (x pc.toNat).o=true).symm.trans h) (by decide) | exact absurd ((by with_reducible assumption:alwB (x pc.toNat).o=false).symm.trans h) (by decide))))
  | ((conv=>whnf);with_reducible apply Both.mk))
 all_goals first
  | ((with_reducible apply Ob.mk);first
    | ((show Region.lexB _ _=true);kernel_rfl)
    | ((show Region.preF _ _=true);kernel_rfl)
    | with_reducible exact ixp hn hp
    | with_reducible exact hp
    | with_reducible exact h10
    | exact ⟨h11,h10,⟨rfl,rfl,rfl,rfl,rfl⟩,trivial⟩
    | exact ⟨Nat.le_refl _,hn,rfl,hp⟩
    | exact ⟨h10,⟨rfl,rfl,rfl,rfl,rfl⟩,trivial⟩
    | exact ⟨h11,h10,OW,⟨rfl,rfl,rfl,rfl,rfl⟩,⟨rfl,rfl,RO⟩,⟨rfl,rfl,RM⟩,trivial⟩
    | exact ⟨⟨rfl,rfl,rfl,rfl,rfl⟩,rfl,⟨RM,hd,hd2⟩,RO,OW⟩
    | exact ⟨h11,⟨rfl,rfl,rfl,rfl,rfl⟩,trivial⟩
    | decide)
  | ((conv=>whnf);simp only [stepV,codeW,cond_true,cond_false,Bool.true_or,Bool.or_true,Bool.or_self,Bool.and_true,Bool.true_and,Bool.and_false,Bool.false_and,Bool.and_self, *] at hq;subst hq;exact ⟨rfl,upsL rfl⟩)
  | ((conv=>whnf);skip)
noncomputable def sp_step (nm:Nat) (de:Bool):SpW:=fun args ch=>match args,ch with
 | [.one (.ptr 0 0)],(0,.cells 95 [.slc 1 0 n cap,.ptr 2 0,.seg 1 11 fR,.seg 1 11 fH,.seg 1 11 fT,.seg 1 512 fW,.seg 1 64 fD,.b64 true pc,.b64 true st])::(1,lb)::w=>(match exL lb,exW nm de w with
   | some (lf,TL,n2,fl),some (c,s)=>some (.p ((lb=lB lf TL n (inOf fl)∧n≤8000∧pc.toNat<n∧(inOf fl pc.toNat).d.toNat<11∧(inOf fl pc.toNat).s.toNat<11)∧mOK fR fH fT fW fD∧w=wB nm de 2 c s∧s.ok c.cm c.dm∧c.ok),.tup [(false,[.bool (stepV nm de c (inOf fl) n pc (mOf fR fH fT fW fD) s).d]),(false,[.b64 true (stepV nm de c (inOf fl) n pc (mOf fR fH fT fW fD) s).e])],(0,sC (stepV nm de c (inOf fl) n pc (mOf fR fH fT fW fD) s).m 2 (.slc 1 0 n cap) (.b64 true (stepV nm de c (inOf fl) n pc (mOf fR fH fT fW fD) s).pc) (.b64 true (st + 1#64)))::wU nm de 2 c (stepV nm de c (inOf fl) n pc (mOf fR fH fT fW fD) s).s)
   | _,_=>none)
 | _,_=>none
theorem e_step (nm:Nat) (de:Bool):EntryW Tryd.prog anyWorld 37 (sp_step nm de):=by
 refine .of_FI (C_sx_ok nm de) (by kernel_rfl) Tryd.func37 (by kernel_rfl) (by kernel_rfl) (fun args ch c v ups h hc=> ?_)
 unfold sp_step at h
 split at h
 · split at h
   · rename_i e1 e
     cases h
     obtain ⟨⟨hl,hn,hp,h10,h11⟩,hm,hw,ok,hco⟩:=hc
     obtain ⟨⟨R,rfl⟩,⟨H,rfl⟩,⟨Tg,rfl⟩,⟨Wr,rfl⟩,⟨D,rfl⟩⟩:=mOK_ex hm
     obtain ⟨hN,-,N⟩:=exW_ok e
     subst hw
     subst hl
     exact step_ex nm de _ hN _ _ N ok hco R H Tg Wr D _ _ _ _ _ _ hn hp h10 h11 _ rfl
   · cases h
 · cases h
end Go.Proofs.YthkgakelgdncjaaDoor
