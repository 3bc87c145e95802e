/- HardenSame: Run of the document's interpreter: the walk, the contract. Conditions: as typed. -/
import Derived.Test.YthkgakelgdncjaaDoorVo
namespace Go.Proofs.YthkgakelgdncjaaDoor
open Go.Ep Go.RowKit
set_option linter.unusedVariables false
set_option linter.unusedSimpArgs false
set_option maxRecDepth 100000 in
set_option maxHeartbeats 64000000 in
theorem run_ex {nm:Nat} {de lf:Bool} (tg:Tag nm de) (lt:Tag 0 lf) (hN:nm=0∨nm=1∨nm=2) (c:WC) (s0:WR) (hS:(normW nm de s0).ok c.cm (dmV de c.dm)) (hc:c.ok) (TL:TypeId) (n cap:Nat) (x:IT) (most:BitVec 64) (hm:most.toNat≤4000) (G:Good x n (BitVec.ofNat 64 nm) true) (hchk:chk4 x n (BitVec.ofNat 64 nm) true=(0#64,0#64)) (Z:BitVec 64×BitVec 64×BitVec 64×WR) (hZ:runF (sNT tg (cN tg c) x n) most.toNat 0 0#64 m00 (normW nm de s0)=Z):FI Tryd.prog (C_rn nm de) Tryd.f14 (rnB lf TL n x nm de (cN tg c) (normW nm de s0)).length [.one (.slc 0 0 n cap),.one (.ptr 1 0),.one (.b64 true most)] (rnB lf TL n x nm de (cN tg c) (normW nm de s0)) (fun u g=>u= .tup [(true,[.b64 false Z.1,.b64 true Z.2.1]),(false,[.b64 true Z.2.2.1])]∧∀ jj bb,Ep.look (rnB lf TL n x nm de (cN tg c) (normW nm de s0)) jj=some bb→Ep.look g jj=lookU (wU nm de 1 (cN tg c) Z.2.2.2) jj (some bb)):=by
 have hc2:((chk4 (inOf (inF x)) n (BitVec.ofNat 64 nm) true).2 != 0#64)=false:=by rw [show inOf (inF x)=x from rfl,hchk];rfl
 obtain ⟨RO,OW⟩:=hc
 rcases hN with rfl | rfl | rfl
 all_goals cases de
 all_goals cases lf
 all_goals simp only [rnB,wB,wU,lB,cN,normW,dmV,List.length_cons,List.length_nil,Nat.reduceAdd,Nat.zero_add]
 all_goals repeat' (first
  | (with_reducible apply Given.mk;intro h;(try exact absurd h (by decide));(try with_reducible exact absurd (hc2.symm.trans h) (by decide)))
  | ((conv=>whnf);first
    | with_reducible apply Both.mk
    | (refine LoopP.mk RK (rnO tg n x (cN tg c) most Z) (rnH tg lt TL n cap x (cN tg c) most) (fun y=>most.toNat - y.t) ⟨⟨m00,normW _ _ s0,0,0⟩,⟨hS,G.pos,rfl,Nat.zero_le _,hZ⟩,⟨?_,?_,?_,?_,?_⟩⟩ ?_;(iterate 2 (focus ((repeat' ((conv=>whnf);first | exact trivial | refine Both.mk (by first | with_reducible rfl | exact iN_succ _ | rfl | exact sEq0 | exact sEq q3) ?_));done)));(iterate 3 (focus exact rfl));(rintro ⟨m,s,k,t⟩ ⟨ok,hk,hh,ht,hr⟩;dsimp only [sNT] at ok hk hh ht hr))))
 all_goals first
  | ((with_reducible apply Ob.mk);first
    | ((show Region.lexB _ _=true);kernel_rfl)
    | ((show Region.preF _ _=true);kernel_rfl)
    | exact ⟨Nat.le_refl _,hn_of G,.inr rfl⟩
    | exact ⟨⟨rfl,hn_of G,(hp_of G hk hh).1,(hp_of G hk hh).2.1,(hp_of G hk hh).2.2⟩,⟨rfl,rfl,rfl,rfl,rfl⟩,rfl,⟨ok.1,ok.2.1,ok.2.2⟩,RO,OW⟩
    | exact ⟨⟨rfl,hn_of G,(hp_of G hk hh).1,(hp_of G hk hh).2.1,(hp_of G hk hh).2.2⟩,⟨rfl,rfl,rfl,rfl,rfl⟩,rfl,⟨ok.1,rfl,Nat.zero_le _⟩,RO,OW⟩
    | decide)
  | ((conv=>whnf);(have e:=rn_end hr ht hm h);subst e;exact ⟨rfl,upsL rfl⟩)
  | ((conv=>whnf);rename_i hc;(have e:=rn_err (step:=sNT tg (cN tg c) x n) hr ht hm hc h);subst e;exact ⟨rfl,upsL rfl⟩)
  | ((conv=>whnf);rename_i hc he;(have e:=rn_fin (step:=sNT tg (cN tg c) x n) hr ht hm hc he h);subst e;exact ⟨rfl,upsL rfl⟩)
  | ((conv=>whnf);rename_i hc he;(have g:=rn_go (step:=sNT tg (cN tg c) x n) hr ht hm hc he h);obtain ⟨g1,g2⟩:=g;(have q:=(stepN_pc G _ _ (cN tg c) m s hk hh).1 h);obtain ⟨k',q1,q2,q3⟩:=q
     refine ⟨⟨(sNT tg (cN tg c) x n (bv k) m s).m,(sNT tg (cN tg c) x n (bv k) m s).s,k',t + 1⟩,⟨(stepN_pc G _ _ (cN tg c) m s hk hh).2 ok ⟨RO,OW⟩,q1,q2,g1,by rw [← q3];exact g2⟩,(by show most.toNat - (t + 1)<most.toNat - t;omega),⟨?_,?_,?_,?_,?_⟩⟩;(iterate 2 (focus ((repeat' ((conv=>whnf);first | exact trivial | refine Both.mk (by first | with_reducible rfl | exact iN_succ _ | rfl | exact sEq0 | exact sEq q3) ?_));done)));(iterate 3 (focus exact rfl)))
  | ((conv=>whnf);skip)
noncomputable def sp_run (nm:Nat) (de:Bool):SpW:=fun args ch=>match args,ch with
 | [.one (.slc 0 0 n cap),.one (.ptr 1 0),.one (.b64 true most)],(0,lb)::w=>(match exL lb,exW nm de w with
   | some (lf,TL,n2,fl),some (c,s)=>some (.p ((lb=lB lf TL n (inOf fl)∧chk4 (inOf fl) n (BitVec.ofNat 64 nm) true=(0#64,0#64)∧most.toNat≤4000)∧w=wB nm de 1 c s∧s.ok c.cm c.dm∧c.ok),.tup [(true,[.b64 false (runF (stepN nm de c (inOf fl) n) most.toNat 0 0#64 m00 s).1,.b64 true (runF (stepN nm de c (inOf fl) n) most.toNat 0 0#64 m00 s).2.1]),(false,[.b64 true (runF (stepN nm de c (inOf fl) n) most.toNat 0 0#64 m00 s).2.2.1])],wU nm de 1 c (runF (stepN nm de c (inOf fl) n) most.toNat 0 0#64 m00 s).2.2.2)
   | _,_=>none)
 | _,_=>none
theorem e_run (nm:Nat) (de:Bool):EntryW Tryd.prog anyWorld 14 (sp_run nm de):=by
 refine .of_FI (C_rn_ok nm de) (by kernel_rfl) Tryd.func14 (by kernel_rfl) (by kernel_rfl) (fun args ch c v ups h hc=> ?_)
 unfold sp_run at h
 split at h
 · rename_i n cap most lb w
   split at h
   · rename_i lf TL n2 fl c s e1 e
     cases h
     obtain ⟨⟨hl,hk,hm⟩,hw,ok,hco⟩:=hc
     obtain ⟨hN,hD,N⟩:=exW_ok e
     subst hw
     subst hl
     have k:=run_ex (lf:=lf) (Tag.mk trivial:Tag nm de) ⟨trivial⟩ hN _ _ (by rw [nrm_s N,hD];exact ok) hco TL n cap (inOf fl) most hm (good_of (by rw [hk])) hk _ rfl
     rw [nrm_s N,nrm_c _ N] at k
     exact k
   · cases h
 · cases h
end Go.Proofs.YthkgakelgdncjaaDoor
