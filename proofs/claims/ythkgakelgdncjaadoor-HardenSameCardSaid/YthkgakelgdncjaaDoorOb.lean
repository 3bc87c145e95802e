/- Chapter 23: the tables that chapter 04's contracts stand on. Conditions: none. -/
import Derived.Test.YthkgakelgdncjaaDoorNn
import Derived.Test.YthkgakelgdncjaaDoorInR
import Derived.Test.YthkgakelgdncjaaDoorPr
import Derived.Test.YthkgakelgdncjaaDoorOm
namespace Go.Proofs.YthkgakelgdncjaaDoor
open Go.Ep Go.RowKit
abbrev tb_b:List (Nat×Sp):=tb_firewallref02_Check
theorem C_b:CSound Tryd.prog anyWorld (tab noData tb_b):=C_firewallref02_Check
end Go.Proofs.YthkgakelgdncjaaDoor
namespace Go.Proofs.YthkgakelgdncjaaDoor
open Go.Ep Go.RowKit
set_option linter.unusedVariables false
set_option linter.unusedSimpArgs false
def sp_progs_jumps:Sp
 | [.agg [.b8 false o,.b8 false d,.b8 false s,.b16 true f,.b32 true i]]=>some (Cond.t,.one (.bool (jmpB o)))
 | _=>none
set_option maxRecDepth 100000 in
set_option maxHeartbeats 4000000 in
theorem e_progs_jumps:EntryOK Tryd.prog anyWorld 47 sp_progs_jumps:=by
 refine .of_F (C_b) (by kernel_rfl) Tryd.func47 (by kernel_rfl) (by kernel_rfl) (fun args c v h hc=> ?_)
 unfold sp_progs_jumps at h
 split at h
 · rename_i o d s f i;cases h
   refine ⟨rfl,rfl,?_⟩
   repeat' (first
    | (with_reducible apply Given.mk;intro h;(try exact absurd h (by decide)))
    | ((conv=>whnf);with_reducible apply Both.mk))
   all_goals first
    | (with_reducible apply Ob.mk;kernel_rfl)
    | (with_reducible apply Ob.mk;decide)
    | ((conv=>whnf);refine ⟨?_⟩;simp only [AV.one.injEq,L.bool.injEq];clear d s f i;revert o;decide +kernel)
 · cases h
abbrev tb_progs_jumps:List (Nat×Sp):=(47,sp_progs_jumps)::tb_b
theorem C_progs_jumps:CSound Tryd.prog anyWorld (tab noData (tb_progs_jumps)):=(C_b).cons (e_progs_jumps)
def sp_progs_always:Sp
 | [.agg [.b8 false o,.b8 false d,.b8 false s,.b16 true f,.b32 true i]]=>some (Cond.t,.one (.bool (alwB o)))
 | _=>none
set_option maxRecDepth 100000 in
set_option maxHeartbeats 4000000 in
theorem e_progs_always:EntryOK Tryd.prog anyWorld 45 sp_progs_always:=by
 refine .of_F (C_progs_jumps) (by kernel_rfl) Tryd.func45 (by kernel_rfl) (by kernel_rfl) (fun args c v h hc=> ?_)
 unfold sp_progs_always at h
 split at h
 · rename_i o d s f i;cases h
   refine ⟨rfl,rfl,?_⟩
   repeat' (first
    | (with_reducible apply Given.mk;intro h;(try exact absurd h (by decide)))
    | ((conv=>whnf);with_reducible apply Both.mk))
   all_goals first
    | (with_reducible apply Ob.mk;kernel_rfl)
    | (with_reducible apply Ob.mk;decide)
    | ((conv=>whnf);refine ⟨?_⟩;simp only [AV.one.injEq,L.bool.injEq];clear d s f i;revert o;decide +kernel)
 · cases h
abbrev tb_progs_always:List (Nat×Sp):=(45,sp_progs_always)::tb_progs_jumps
theorem C_progs_always:CSound Tryd.prog anyWorld (tab noData (tb_progs_always)):=(C_progs_jumps).cons (e_progs_always)
def sp_progs_ends:Sp
 | [.agg [.b8 false o,.b8 false d,.b8 false s,.b16 true f,.b32 true i]]=>some (Cond.t,.one (.bool (endB o)))
 | _=>none
set_option maxRecDepth 100000 in
set_option maxHeartbeats 4000000 in
theorem e_progs_ends:EntryOK Tryd.prog anyWorld 44 sp_progs_ends:=by
 refine .of_F (C_progs_always) (by kernel_rfl) Tryd.func44 (by kernel_rfl) (by kernel_rfl) (fun args c v h hc=> ?_)
 unfold sp_progs_ends at h
 split at h
 · rename_i o d s f i;cases h
   refine ⟨rfl,rfl,?_⟩
   repeat' (first
    | (with_reducible apply Given.mk;intro h;(try exact absurd h (by decide)))
    | ((conv=>whnf);with_reducible apply Both.mk))
   all_goals first
    | (with_reducible apply Ob.mk;kernel_rfl)
    | (with_reducible apply Ob.mk;decide)
    | ((conv=>whnf);refine ⟨?_⟩;simp only [AV.one.injEq,L.bool.injEq];clear d s f i;revert o;decide +kernel)
 · cases h
abbrev tb_progs_ends:List (Nat×Sp):=(44,sp_progs_ends)::tb_progs_always
theorem C_progs_ends:CSound Tryd.prog anyWorld (tab noData (tb_progs_ends)):=(C_progs_always).cons (e_progs_ends)
def sp_progs_size:Sp
 | [.agg [.b8 false o,.b8 false d,.b8 false s,.b16 true f,.b32 true i]]=>some (Cond.t,.one (.b64 true (szV o)))
 | _=>none
set_option maxRecDepth 100000 in
set_option maxHeartbeats 4000000 in
theorem e_progs_size:EntryOK Tryd.prog anyWorld 46 sp_progs_size:=by
 refine .of_F (C_progs_ends) (by kernel_rfl) Tryd.func46 (by kernel_rfl) (by kernel_rfl) (fun args c v h hc=> ?_)
 unfold sp_progs_size at h
 split at h
 · rename_i o d s f i;cases h
   refine ⟨rfl,rfl,?_⟩
   repeat' (first
    | (with_reducible apply Given.mk;intro h;(try exact absurd h (by decide)))
    | ((conv=>whnf);with_reducible apply Both.mk))
   all_goals first
    | (with_reducible apply Ob.mk;kernel_rfl)
    | (with_reducible apply Ob.mk;decide)
    | ((conv=>whnf);refine ⟨?_⟩;simp only [AV.one.injEq,L.b64.injEq,true_and];clear d s f i;revert o;decide +kernel)
 · cases h
abbrev tb_progs_size:List (Nat×Sp):=(46,sp_progs_size)::tb_progs_ends
theorem C_progs_size:CSound Tryd.prog anyWorld (tab noData (tb_progs_size)):=(C_progs_ends).cons (e_progs_size)
def sp_firewallref04_Jumps:Sp
 | [.agg [.b8 false o,.b8 false d,.b8 false s,.b16 true f,.b32 true i]]=>some (Cond.t,.one (.bool (jmpB o)))
 | _=>none
set_option maxRecDepth 100000 in
set_option maxHeartbeats 4000000 in
theorem e_firewallref04_Jumps:EntryOK Tryd.prog anyWorld 52 sp_firewallref04_Jumps:=by
 refine .of_F (C_progs_size) (by kernel_rfl) Tryd.func52 (by kernel_rfl) (by kernel_rfl) (fun args c v h hc=> ?_)
 unfold sp_firewallref04_Jumps at h
 split at h
 · rename_i o d s f i;cases h
   refine ⟨rfl,rfl,?_⟩
   repeat' (first
    | (with_reducible apply Given.mk;intro h;(try exact absurd h (by decide)))
    | ((conv=>whnf);with_reducible apply Both.mk))
   all_goals first
    | (with_reducible apply Ob.mk;kernel_rfl)
    | (with_reducible apply Ob.mk;decide)
    | ((conv=>whnf);refine ⟨?_⟩;simp only [AV.one.injEq,L.bool.injEq];clear d s f i;revert o;decide +kernel)
 · cases h
abbrev tb_firewallref04_Jumps:List (Nat×Sp):=(52,sp_firewallref04_Jumps)::tb_progs_size
theorem C_firewallref04_Jumps:CSound Tryd.prog anyWorld (tab noData (tb_firewallref04_Jumps)):=(C_progs_size).cons (e_firewallref04_Jumps)
def sp_firewallref04_Always:Sp
 | [.agg [.b8 false o,.b8 false d,.b8 false s,.b16 true f,.b32 true i]]=>some (Cond.t,.one (.bool (alwB o)))
 | _=>none
set_option maxRecDepth 100000 in
set_option maxHeartbeats 4000000 in
theorem e_firewallref04_Always:EntryOK Tryd.prog anyWorld 55 sp_firewallref04_Always:=by
 refine .of_F (C_firewallref04_Jumps) (by kernel_rfl) Tryd.func55 (by kernel_rfl) (by kernel_rfl) (fun args c v h hc=> ?_)
 unfold sp_firewallref04_Always at h
 split at h
 · rename_i o d s f i;cases h
   refine ⟨rfl,rfl,?_⟩
   repeat' (first
    | (with_reducible apply Given.mk;intro h;(try exact absurd h (by decide)))
    | ((conv=>whnf);with_reducible apply Both.mk))
   all_goals first
    | (with_reducible apply Ob.mk;kernel_rfl)
    | (with_reducible apply Ob.mk;decide)
    | ((conv=>whnf);refine ⟨?_⟩;simp only [AV.one.injEq,L.bool.injEq];clear d s f i;revert o;decide +kernel)
 · cases h
abbrev tb_firewallref04_Always:List (Nat×Sp):=(55,sp_firewallref04_Always)::tb_firewallref04_Jumps
theorem C_firewallref04_Always:CSound Tryd.prog anyWorld (tab noData (tb_firewallref04_Always)):=(C_firewallref04_Jumps).cons (e_firewallref04_Always)
def sp_firewallref04_Ends:Sp
 | [.agg [.b8 false o,.b8 false d,.b8 false s,.b16 true f,.b32 true i]]=>some (Cond.t,.one (.bool (endB o)))
 | _=>none
set_option maxRecDepth 100000 in
set_option maxHeartbeats 4000000 in
theorem e_firewallref04_Ends:EntryOK Tryd.prog anyWorld 54 sp_firewallref04_Ends:=by
 refine .of_F (C_firewallref04_Always) (by kernel_rfl) Tryd.func54 (by kernel_rfl) (by kernel_rfl) (fun args c v h hc=> ?_)
 unfold sp_firewallref04_Ends at h
 split at h
 · rename_i o d s f i;cases h
   refine ⟨rfl,rfl,?_⟩
   repeat' (first
    | (with_reducible apply Given.mk;intro h;(try exact absurd h (by decide)))
    | ((conv=>whnf);with_reducible apply Both.mk))
   all_goals first
    | (with_reducible apply Ob.mk;kernel_rfl)
    | (with_reducible apply Ob.mk;decide)
    | ((conv=>whnf);refine ⟨?_⟩;simp only [AV.one.injEq,L.bool.injEq];clear d s f i;revert o;decide +kernel)
 · cases h
abbrev tb_firewallref04_Ends:List (Nat×Sp):=(54,sp_firewallref04_Ends)::tb_firewallref04_Always
theorem C_firewallref04_Ends:CSound Tryd.prog anyWorld (tab noData (tb_firewallref04_Ends)):=(C_firewallref04_Always).cons (e_firewallref04_Ends)
def sp_firewallref03_Half:Sp
 | [.agg [.b8 false o,.b8 false d,.b8 false s,.b16 true f,.b32 true i],.one (.bool w)]=>some (Cond.t,.one (.bool (o==0#8&&(d==0#8&&(s==0#8&&(f==0#16&&(i==0#32|| !w)))))))
 | _=>none
set_option maxRecDepth 100000 in
set_option maxHeartbeats 4000000 in
theorem e_firewallref03_Half:EntryOK Tryd.prog anyWorld 51 sp_firewallref03_Half:=by
 refine .of_F (C_firewallref04_Ends) (by kernel_rfl) Tryd.func51 (by kernel_rfl) (by kernel_rfl) (fun args c v h hc=> ?_)
 unfold sp_firewallref03_Half at h
 split at h
 · rename_i o d s f i w;cases h
   refine ⟨rfl,rfl,?_⟩
   repeat' (first
    | (with_reducible apply Given.mk;intro h;(try exact absurd h (by decide)))
    | ((conv=>whnf);with_reducible apply Both.mk))
   all_goals first
    | (with_reducible apply Ob.mk;kernel_rfl)
    | (with_reducible apply Ob.mk;decide)
    | ((conv=>whnf);refine ⟨?_⟩;first | rfl | (simp_all;done))
 · cases h
abbrev tb_firewallref03_Half:List (Nat×Sp):=(51,sp_firewallref03_Half)::tb_firewallref04_Ends
theorem C_firewallref03_Half:CSound Tryd.prog anyWorld (tab noData (tb_firewallref03_Half)):=(C_firewallref04_Ends).cons (e_firewallref03_Half)
open Classical in
theorem reachB_iff (x:IT) (j:Nat):reachB x j=true ↔ Reach x j:=by unfold reachB;exact decide_eq_true_iff
theorem eq_reach {x:IT} {j:Nat} {b:Bool} (h:b=true ↔ Reach x j):b=reachB x j:=by
 rw [Bool.eq_iff_iff,h,reachB_iff]
theorem visF_z (x:IT) (p:Nat) (g:Nat→Bool):visF x 0 p g=g:=by rw [visF]
theorem visF_s (x:IT) (m p:Nat) (g:Nat→Bool):visF x (m + 1) p g=if g p then g else visL x m (succ x p) (mark g p):=by rw [visF]
theorem visL_n (x:IT) (m:Nat) (g:Nat→Bool):visL x m [] g=g:=by rw [visL]
theorem visL_c (x:IT) (m q:Nat) (r:List Nat) (g:Nat→Bool):visL x m (q::r) g=visL x m r (visF x m q g):=by rw [visL]
theorem visL_mono' (x:IT) (m:Nat) (hF:∀ p g j,g j=true→visF x m p g j=true):∀ (l:List Nat) (g:Nat→Bool) {j:Nat},g j=true→visL x m l g j=true
 | [],g,j,h=>by rw [visL_n];exact h
 | q::r,g,j,h=>by rw [visL_c];exact visL_mono' x m hF r _ (hF q g j h)
theorem visF_mono (x:IT):∀ (m p:Nat) (g:Nat→Bool) (j:Nat),g j=true→visF x m p g j=true
 | 0,p,g,j,h=>by rw [visF_z];exact h
 | m + 1,p,g,j,h=>by
   rw [visF_s]
   split
   · exact h
   · exact visL_mono' x m (visF_mono x m) _ _ (mark_mono g p h)
theorem visL_mono (x:IT) (m:Nat) (l:List Nat) (g:Nat→Bool) {j:Nat} (h:g j=true):visL x m l g j=true:=visL_mono' x m (visF_mono x m) l g h
theorem cnt_zero {g:Nat→Bool}:∀ {n:Nat},cnt g n=0→∀ j,j<n→g j=true
 | 0,_,j,hj=>by omega
 | n + 1,h,j,hj=>by
   simp only [cnt] at h
   by_cases e:j=n
   · subst e
     cases hg:g j with
     | true=>rfl
     | false=>rw [hg] at h;simp at h
   · exact cnt_zero (n:=n) (by omega) j (by omega)
def NewOK (x:IT) (n:Nat) (g g':Nat→Bool):Prop:=∀ q,g' q=true→g q=true∨(q<n∧hf x q=false∧∀ r∈succ x q,g' r=true)
theorem NewOK.trans {x:IT} {n:Nat} {g g' g'':Nat→Bool} (h1:NewOK x n g g') (h2:NewOK x n g' g'') (hm:∀ j,g' j=true→g'' j=true):NewOK x n g g'':=fun q hq=>by
 rcases h2 q hq with h | h
 · rcases h1 q h with h | ⟨a,b,c⟩
   · exact .inl h
   · exact .inr ⟨a,b,fun r hr=>hm r (c r hr)⟩
 · exact .inr h
theorem visL_ok (x:IT) (n m:Nat) (hF:∀ (g:Nat→Bool) (p:Nat),cnt g n≤m→p<n→hf x p=false→visF x m p g p=true∧NewOK x n g (visF x m p g)) :
 ∀ (l:List Nat) (g:Nat→Bool),cnt g n≤m→(∀ q∈l,q<n∧hf x q=false)→(∀ q∈l,visL x m l g q=true)∧NewOK x n g (visL x m l g)
 | [],g,hc,hl=>⟨fun q hq=>by simp at hq,fun q hq=> .inl (by rwa [visL_n] at hq)⟩
 | p::r,g,hc,hl=>by
   obtain ⟨h1,h2⟩:=hF g p hc (hl p (by simp)).1 (hl p (by simp)).2
   have hmono:∀ j,g j=true→visF x m p g j=true:=fun j h=>visF_mono x m p g j h
   obtain ⟨h3,h4⟩:=visL_ok x n m hF r (visF x m p g) (Nat.le_trans (cnt_le hmono n) hc) fun q hq=>hl q (by simp [hq])
   rw [visL_c]
   refine ⟨fun q hq=> ?_,h2.trans h4 fun j h=>visL_mono x m r _ h⟩
   rcases List.mem_cons.1 hq with rfl | hq
   · exact visL_mono x m r _ h1
   · exact h3 q hq
theorem visF_ok (x:IT) {n:Nat} (W:WaysOK x n):∀ (m:Nat) (g:Nat→Bool) (p:Nat),cnt g n≤m→p<n→hf x p=false→visF x m p g p=true∧NewOK x n g (visF x m p g)
 | 0,g,p,hc,hp,hh=>by
   rw [visF_z]
   exact ⟨cnt_zero (by omega) p hp,fun q hq=> .inl hq⟩
 | m + 1,g,p,hc,hp,hh=>by
   rw [visF_s]
   cases hg:g p with
   | true=>exact ⟨hg,fun q hq=> .inl hq⟩
   | false=>
     have hc':cnt (mark g p) n≤m:=by have:=cnt_mark hg n hp;omega
     obtain ⟨h1,h2⟩:=visL_ok x n m (visF_ok x W m) (succ x p) (mark g p) hc' fun q hq=>succ_lt W hp hh hq
     refine ⟨visL_mono x m _ _ (mark_self g p),fun q hq=> ?_⟩
     rcases h2 q hq with h | h
     · by_cases e:q=p
       · subst e;exact .inr ⟨hp,hh,h1⟩
       · rw [mark_other g e] at h;exact .inl h
     · exact .inr h
theorem visL_sound (x:IT) (m:Nat) (hF:∀ (g:Nat→Bool) (p:Nat),Reach x p→∀ q,visF x m p g q=true→g q=true∨Reach x q) :
 ∀ (l:List Nat) (g:Nat→Bool),(∀ q∈l,Reach x q)→∀ q,visL x m l g q=true→g q=true∨Reach x q
 | [],g,hl,q,h=> .inl (by rwa [visL_n] at h)
 | p::r,g,hl,q,h=>by
   rw [visL_c] at h
   rcases visL_sound x m hF r _ (fun q hq=>hl q (by simp [hq])) q h with h | h
   · exact hF g p (hl p (by simp)) q h
   · exact .inr h
theorem visF_sound (x:IT):∀ (m:Nat) (g:Nat→Bool) (p:Nat),Reach x p→∀ q,visF x m p g q=true→g q=true∨Reach x q
 | 0,g,p,hr,q,h=> .inl (by rwa [visF_z] at h)
 | m + 1,g,p,hr,q,h=>by
   rw [visF_s] at h
   cases hg:g p with
   | true=>rw [hg] at h;exact .inl h
   | false=>
     rw [hg] at h
     rcases visL_sound x m (visF_sound x m) _ _ (fun q hq=> .step hr hq) q h with h | h
     · by_cases e:q=p
       · subst e;exact .inr hr
       · rw [mark_other g e] at h;exact .inl h
     · exact .inr h
theorem cnt_none:∀ n,cnt (fun _=>false) n=n
 | 0=>rfl
 | n + 1=>by simp only [cnt,cnt_none n];rfl
def LedOK (x:IT) (g:Nat→Bool):Prop:=g 0=true∧∀ j,g j=true→Reach x j
theorem LedOK.start (x:IT):LedOK x (mark (fun _=>false) 0):=⟨mark_self _ 0,fun j h=>by
 by_cases e:j=0
 · subst e;exact .zero
 · rw [mark_other _ e] at h;cases h⟩
theorem LedOK.more {x:IT} {g:Nat→Bool} (h:LedOK x g) {p q:Nat} (hp:g p=true) (hq:q∈succ x p):LedOK x (mark g q):=⟨mark_mono g q h.1,fun j hj=>by
 by_cases e:j=q
 · subst e;exact .step (h.2 p hp) hq
 · rw [mark_other g e] at hj;exact h.2 j hj⟩
theorem LedOK.done {x:IT} {n:Nat} {g:Nat→Bool} (W:WaysOK x n) (h0:0<n) (h:LedOK x g) (hc:∀ p,p<n→g p=true→∀ q∈succ x p,g q=true):g=reachB x:=by
 funext j
 have key:g j=true ↔ Reach x j:=by
  constructor
  · exact h.2 j
  · intro hr
    induction hr with
    | zero=>exact h.1
    | step hr hq ih=>exact hc _ (reach_lt W h0 hr).1 ih _ hq
 exact eq_reach key
abbrev tb_o:List (Nat×Sp):=tb_firewallref03_Half
theorem C_o:CSound Tryd.prog anyWorld (tab noData tb_o):=C_firewallref03_Half
theorem toInt_lt {p:BitVec 64} {n:Nat} (hn:n≤8000) (hp:p.toNat<n):p.toInt=(p.toNat:Int):=by
 rw [BitVec.toInt_eq_toNat_cond];split<;>omega
theorem ixp {p:BitVec 64} {n:Nat} (hn:n≤8000) (hp:p.toNat<n):0≤p.toInt∧p.toNat<n:=by
 rw [toInt_lt hn hp];exact ⟨by omega,hp⟩
theorem nat1 {p:BitVec 64} {n:Nat} (hn:n≤8000) (hp:p.toNat<n):(p + 1#64).toNat=p.toNat + 1:=by
 rw [BitVec.toNat_add];show (p.toNat + 1) % _=_;omega
theorem lt1 {p:BitVec 64} {n:Nat} (hn:n≤8000) (hp:p.toNat<n) (h:(BitVec.ofNat 64 n).sle (p + 1#64)=false):(p + 1#64).toNat<n:=by
 have h1:=nat1 hn hp
 rw [BitVec.sle_eq_decide,toInt_ofNat (by omega),BitVec.toInt_eq_toNat_cond,h1] at h
 simp only [decide_eq_false_iff_not] at h
 rw [h1]
 split at h<;>omega
theorem ixp1 {p:BitVec 64} {n:Nat} (hn:n≤8000) (hp:p.toNat<n) (h:(BitVec.ofNat 64 n).sle (p + 1#64)=false):0≤(p + 1#64).toInt∧(p + 1#64).toNat<n:=ixp hn (lt1 hn hp h)
theorem eq1 {p:BitVec 64} {n:Nat} (hn:n≤8000) (hp:p.toNat<n):(p + 1#64==BitVec.ofNat 64 n)=(BitVec.ofNat 64 n).sle (p + 1#64):=by
 have h1:=nat1 hn hp
 rw [BitVec.sle_eq_decide,toInt_ofNat (by omega),BitVec.toInt_eq_toNat_cond,h1]
 rw [if_pos (by omega)]
 have:(p + 1#64==BitVec.ofNat 64 n)=decide (p.toNat + 1=n):=by
  rw [Bool.eq_iff_iff,beq_iff_eq,decide_eq_true_eq]
  constructor
  · intro e
    have:=congrArg BitVec.toNat e
    rw [h1,nat_ofNat (by omega)] at this;exact this
  · intro e
    apply BitVec.eq_of_toNat_eq
    rw [h1,nat_ofNat (by omega),e]
 rw [this,Bool.eq_iff_iff]
 simp only [decide_eq_true_eq];omega
theorem sle1_t {p:BitVec 64} {n:Nat} (hn:n≤8000) (hp:p.toNat<n) (h:(p + 1#64==BitVec.ofNat 64 n)=false):(BitVec.ofNat 64 n).sle (p + 1#64)=false:=by rw [← eq1 hn hp];exact h
noncomputable abbrev FSc:List (Nat×Func):=[(76,Tryd.f76),(100,Tryd.f100)]
theorem fs_c:FsOK Tryd.prog FSc:=FsOK.cons Tryd.func76 (by kernel_rfl) (by kernel_rfl) (FsOK.cons Tryd.func100 (by kernel_rfl) (by kernel_rfl) FsOK.nil)
def sq_field (len:Nat) (g:Nat→List PL) (rest:List AV):Option (Cond×AV):=match rest with
 | [.one (.b64 true p),.one (.b64 true m),.one (.bool w)]=>some (Cond.p (len≤8000∧g=inF (inOf g)∧p.toNat<len),.one (.b64 true (aloneE (inOf g) len p m w)))
 | _=>none
set_option maxRecDepth 100000 in
set_option maxHeartbeats 8000000 in
theorem field_walk (T:TypeId) (len cap:Nat) (hl:len≤8000) (x:IT) (p:BitVec 64) (m:BitVec 64) (w:Bool) (hc0:p.toNat<len) :
 FI Tryd.prog (tabI Tryd.prog noData tb_o FSc 3) Tryd.f40 1 [.one (.slc 0 0 len cap),.one (.b64 true p),.one (.b64 true m),.one (.bool w)] [(0,.ro T [.seg 5 len (inF x)])] (fun r _=>r= .one (.b64 true (aloneE x len p m w))):=by
 repeat' (first
  | (with_reducible apply Given.mk;intro h;(try simp only [reduceCtorEq,Bool.true_eq_false,Bool.false_eq_true] at h);(try ((fail_if_success (have _q:=q0));exact absurd h (by decide))))
  | ((conv=>whnf);first
    | with_reducible apply Both.mk
    | refine LoopP.times 5 ?_))
 all_goals first
  | (with_reducible apply Ob.mk;kernel_rfl)
  | ((with_reducible apply Ob.mk);show len<9223372036854775808;omega)
  | ((fail_if_success (have _q:=q0));with_reducible apply Ob.mk;decide)
  | ((with_reducible apply Ob.mk);exact ixp hl hc0)
  | ((with_reducible apply Ob.mk);exact (ixp hl hc0).2)
  | ((with_reducible apply Ob.mk);exact ixp1 hl hc0 (by with_reducible assumption))
  | ((with_reducible apply Ob.mk);exact (ixp1 hl hc0 (by with_reducible assumption)).2)
  | ((with_reducible apply Ob.mk);exact ixp1 hl hc0 (sle1_t hl hc0 (by with_reducible assumption)))
  | ((with_reducible apply Ob.mk);exact (ixp1 hl hc0 (sle1_t hl hc0 (by with_reducible assumption))).2)
  | ((conv=>whnf);(try rw [eq1 hl hc0] at *);first | rfl | (simp [aloneE, *];done) | (simp_all [aloneE];done))
  | (with_reducible apply Ob.mk;skip)
  | ((conv=>whnf);skip)
set_option maxRecDepth 100000 in
theorem e_field:EntryM Tryd.prog anyWorld 40 (spS 5 sq_field):=by
 refine .of_slice (CSound.tabI C_o (by kernel_rfl) fs_c 3) (by kernel_rfl) Tryd.func40 (by kernel_rfl) (by kernel_rfl) (fun len g rest c v h hc=> ?_) (fun rest c v h hc ad cap=> ?_)
 · unfold sq_field at h
   split at h
   · cases h
     obtain ⟨h1,h2,c0⟩:=hc
     refine ⟨rfl,rfl,fun T cap=> ?_⟩
     generalize inOf g=x at h2
     subst h2
     exact field_walk T len cap h1 x _ _ _ c0
   · cases h
 · unfold sq_field at h
   split at h
   · cases h
     exact absurd hc.2.2 (Nat.not_lt_zero _)
   · cases h
def sq_alone (len:Nat) (g:Nat→List PL) (rest:List AV):Option (Cond×AV):=match rest with
 | [.one (.b64 true p),.one (.b64 true m),.one (.bool w)]=>some (Cond.p (len≤8000∧g=inF (inOf g)∧p.toNat<len),.one (.b64 true (aloneE (inOf g) len p m w)))
 | _=>none
set_option maxRecDepth 100000 in
set_option maxHeartbeats 8000000 in
theorem alone_walk (T:TypeId) (len cap:Nat) (hl:len≤8000) (x:IT) (p:BitVec 64) (m:BitVec 64) (w:Bool) (hc0:p.toNat<len) :
 FI Tryd.prog (tab noData tb_o) Tryd.f26 1 [.one (.slc 0 0 len cap),.one (.b64 true p),.one (.b64 true m),.one (.bool w)] [(0,.ro T [.seg 5 len (inF x)])] (fun r _=>r= .one (.b64 true (aloneE x len p m w))):=by
 repeat' (first
  | (with_reducible apply Given.mk;intro h;(try simp only [reduceCtorEq,Bool.true_eq_false,Bool.false_eq_true] at h);(try ((fail_if_success (have _q:=q0));exact absurd h (by decide))))
  | ((conv=>whnf);first
    | with_reducible apply Both.mk
    | refine LoopP.times 5 ?_))
 all_goals first
  | (with_reducible apply Ob.mk;kernel_rfl)
  | ((with_reducible apply Ob.mk);show len<9223372036854775808;omega)
  | ((fail_if_success (have _q:=q0));with_reducible apply Ob.mk;decide)
  | ((with_reducible apply Ob.mk);exact ixp hl hc0)
  | ((with_reducible apply Ob.mk);exact (ixp hl hc0).2)
  | ((with_reducible apply Ob.mk);exact ixp1 hl hc0 (by with_reducible assumption))
  | ((with_reducible apply Ob.mk);exact (ixp1 hl hc0 (by with_reducible assumption)).2)
  | ((with_reducible apply Ob.mk);exact ixp1 hl hc0 (sle1_t hl hc0 (by with_reducible assumption)))
  | ((with_reducible apply Ob.mk);exact (ixp1 hl hc0 (sle1_t hl hc0 (by with_reducible assumption))).2)
  | ((conv=>whnf);(try rw [eq1 hl hc0] at *);first | rfl | (simp [aloneE, *];done) | (simp_all [aloneE];done))
  | (with_reducible apply Ob.mk;skip)
  | ((conv=>whnf);skip)
set_option maxRecDepth 100000 in
theorem e_alone:EntryM Tryd.prog anyWorld 26 (spS 5 sq_alone):=by
 refine .of_slice C_o (by kernel_rfl) Tryd.func26 (by kernel_rfl) (by kernel_rfl) (fun len g rest c v h hc=> ?_) (fun rest c v h hc ad cap=> ?_)
 · unfold sq_alone at h
   split at h
   · cases h
     obtain ⟨h1,h2,c0⟩:=hc
     refine ⟨rfl,rfl,fun T cap=> ?_⟩
     generalize inOf g=x at h2
     subst h2
     exact alone_walk T len cap h1 x _ _ _ c0
   · cases h
 · unfold sq_alone at h
   split at h
   · cases h
     exact absurd hc.2.2 (Nat.not_lt_zero _)
   · cases h
def sq_behind (len:Nat) (g:Nat→List PL) (rest:List AV):Option (Cond×AV):=match rest with
 | [.one (.b64 true p)]=>some (Cond.p (len≤8000∧g=inF (inOf g)∧p.toNat<len),.one (.b64 true (p + szV ((inOf g) p.toNat).o)))
 | _=>none
set_option maxRecDepth 100000 in
set_option maxHeartbeats 8000000 in
theorem behind_walk (T:TypeId) (len cap:Nat) (hl:len≤8000) (x:IT) (p:BitVec 64) (hc0:p.toNat<len) :
 FI Tryd.prog (tab noData tb_o) Tryd.f25 1 [.one (.slc 0 0 len cap),.one (.b64 true p)] [(0,.ro T [.seg 5 len (inF x)])] (fun r _=>r= .one (.b64 true (p + szV (x p.toNat).o))):=by
 repeat' (first
  | (with_reducible apply Given.mk;intro h;(try simp only [reduceCtorEq,Bool.true_eq_false,Bool.false_eq_true] at h);(try ((fail_if_success (have _q:=q0));exact absurd h (by decide))))
  | ((conv=>whnf);first
    | with_reducible apply Both.mk
    | refine LoopP.times 5 ?_))
 all_goals first
  | (with_reducible apply Ob.mk;kernel_rfl)
  | ((with_reducible apply Ob.mk);show len<9223372036854775808;omega)
  | ((fail_if_success (have _q:=q0));with_reducible apply Ob.mk;decide)
  | ((with_reducible apply Ob.mk);exact ixp hl hc0)
  | ((with_reducible apply Ob.mk);exact (ixp hl hc0).2)
  | ((with_reducible apply Ob.mk);exact ixp1 hl hc0 (by with_reducible assumption))
  | ((with_reducible apply Ob.mk);exact (ixp1 hl hc0 (by with_reducible assumption)).2)
  | ((with_reducible apply Ob.mk);exact ixp1 hl hc0 (sle1_t hl hc0 (by with_reducible assumption)))
  | ((with_reducible apply Ob.mk);exact (ixp1 hl hc0 (sle1_t hl hc0 (by with_reducible assumption))).2)
  | ((conv=>whnf);(try rw [eq1 hl hc0] at *);first | rfl | (simp [szV, *];done) | (simp_all [szV];done))
  | (with_reducible apply Ob.mk;skip)
  | ((conv=>whnf);skip)
set_option maxRecDepth 100000 in
theorem e_behind:EntryM Tryd.prog anyWorld 25 (spS 5 sq_behind):=by
 refine .of_slice C_o (by kernel_rfl) Tryd.func25 (by kernel_rfl) (by kernel_rfl) (fun len g rest c v h hc=> ?_) (fun rest c v h hc ad cap=> ?_)
 · unfold sq_behind at h
   split at h
   · cases h
     obtain ⟨h1,h2,c0⟩:=hc
     refine ⟨rfl,rfl,fun T cap=> ?_⟩
     generalize inOf g=x at h2
     subst h2
     exact behind_walk T len cap h1 x _ c0
   · cases h
 · unfold sq_behind at h
   split at h
   · cases h
     exact absurd hc.2.2 (Nat.not_lt_zero _)
   · cases h
abbrev ms_o1:List (Nat×SpM):=[(25,spS 5 sq_behind)]
theorem CM_o1:CSound Tryd.prog anyWorld (tabM noData tb_o ms_o1):=(CSound.startM C_o).consM e_behind
theorem sec_go {x:IT} {a p n:Nat} (hn:n≤8000) (hp:p<n) (h:hf x a=false∧a≤p + 1∧(a=p + 1→hf x p=true)) (hlt:a<p):hf x (a + szN (x a).o)=false∧a + szN (x a).o≤p + 1∧(a + szN (x a).o=p + 1→hf x p=true):=by
 have hs:szN (x a).o≤2:=by unfold szN;split<;>omega
 refine ⟨hf_next x h.1,by omega,fun e=>hf_half x h.1 hlt (by omega)⟩
theorem sec_end {x:IT} {a p n:Nat} (hn:n≤8000) (hp:p<n) (h:hf x a=false∧a≤p + 1∧(a=p + 1→hf x p=true)) (hge:p≤a):decide (p<a)=hf x p:=by
 by_cases e:a=p
 · subst e;rw [h.1];exact decide_eq_false (by omega)
 · have:a=p + 1:=by omega
   rw [h.2.2 this];exact decide_eq_true (by omega)
theorem bv_eq {p:BitVec 64}:p=BitVec.ofNat 64 p.toNat:=by rw [BitVec.ofNat_toNat,BitVec.setWidth_eq]
theorem slt_p {p:BitVec 64} {a n:Nat} (hn:n≤8000) (hp:p.toNat<n) (ha:a≤n):(BitVec.ofNat 64 a).slt p=decide (a<p.toNat):=by
 conv=>lhs;rw [bv_eq (p:=p)]
 exact slt_nat (by omega) (by omega)
theorem p_slt {p:BitVec 64} {a n:Nat} (hn:n≤8000) (hp:p.toNat<n) (ha:a≤n):p.slt (BitVec.ofNat 64 a)=decide (p.toNat<a):=by
 conv=>lhs;rw [bv_eq (p:=p)]
 exact slt_nat (by omega) (by omega)
theorem nx_eq {x:IT} {a k:Nat} (e:k=a):AV.one (.b64 true (BitVec.ofNat 64 a + szV (inOf (inF x) k).o))=iN (a + szN (x a).o):=by
 subst e
 show AV.one (.b64 true (BitVec.ofNat 64 k + szV (x k).o))=_
 rw [szV_nat];exact congrArg (fun v=>AV.one (.b64 true v)) (BitVec.ofNat_add _ _).symm
def sq_second (len:Nat) (g:Nat→List PL) (rest:List AV):Option (Cond×AV):=match rest with
 | [.one (.b64 true p)]=>some (Cond.p (len≤8000∧g=inF (inOf g)∧p.toNat<len),.one (.bool (hf (inOf g) p.toNat)))
 | _=>none
set_option maxRecDepth 100000 in
set_option maxHeartbeats 8000000 in
theorem second_walk (T:TypeId) (len cap:Nat) (hl:len≤8000) (x:IT) (p:BitVec 64) (hc0:p.toNat<len) :
 FI Tryd.prog (tabM noData tb_o ms_o1) Tryd.f53 1 [.one (.slc 0 0 len cap),.one (.b64 true p)] [(0,.ro T [.seg 5 len (inF x)])] (fun r _=>r= .one (.bool (hf x p.toNat))):=by
 repeat' (first
  | (with_reducible apply Given.mk;intro h;(try simp only [reduceCtorEq,Bool.true_eq_false,Bool.false_eq_true] at h);(try ((fail_if_success (have _q:=q0));exact absurd h (by decide))))
  | ((conv=>whnf);first
    | with_reducible apply Both.mk
    | (refine LoopP.mk (Nat) (fun a=>hf x a=false∧a≤p.toNat + 1∧(a=p.toNat + 1→hf x p.toNat=true)) ((fun a=>mkS (Tryd.f53).ntmps [(0,.one (.slc 0 0 len cap)),(1,.one (.b64 true p)),(5,iN a)] [(0,.ro T [.seg 5 len (inF x)])])) (fun a=>p.toNat + 2 - a) ⟨0,⟨rfl,Nat.zero_le _,fun e=>absurd e (by omega)⟩,⟨?_,?_,?_,?_,?_⟩⟩ ?_;(iterate 2 (focus ((repeat' ((conv=>whnf);first | exact trivial | refine Both.mk (by first | with_reducible rfl | exact iN_succ _ | rfl) ?_));done)));(iterate 3 (focus exact rfl));(rintro a q0;have ha:a≤len:=Nat.le_trans q0.2.1 hc0;dsimp only))))
 all_goals first
  | (with_reducible apply Ob.mk;kernel_rfl)
  | ((with_reducible apply Ob.mk);show len<9223372036854775808;omega)
  | ((fail_if_success (have _q:=q0));with_reducible apply Ob.mk;decide)
  | ((with_reducible apply Ob.mk);exact ⟨Nat.le_refl _,hl,rfl,(by rw [nat_ofNat (by omega)];have hlt:a<p.toNat:=of_decide_eq_true ((slt_p hl hc0 ha).symm.trans (by with_reducible assumption));omega)⟩)
  | ((conv=>whnf);exact congrArg (fun b=>AV.one (.bool b)) ((p_slt hl hc0 ha).trans (sec_end hl hc0 q0 (Nat.le_of_not_lt (of_decide_eq_false ((slt_p hl hc0 ha).symm.trans (by with_reducible assumption)))))))
  | ((conv=>whnf);refine ⟨a + szN (x a).o,sec_go hl hc0 q0 (of_decide_eq_true ((slt_p hl hc0 ha).symm.trans (by with_reducible assumption))),(by have hlt:a<p.toNat:=of_decide_eq_true ((slt_p hl hc0 ha).symm.trans (by with_reducible assumption));have hs:1≤szN (x a).o:=(by unfold szN;split<;>omega);show p.toNat + 2 - (a + szN (x a).o)<p.toNat + 2 - a;omega),⟨?_,?_,?_,?_,?_⟩⟩;(iterate 2 (focus ((repeat' ((conv=>whnf);first | exact trivial | refine Both.mk (by first | with_reducible rfl | exact iN_succ _ | exact nx_eq (nat_ofNat (by omega)) | rfl) ?_));done)));(iterate 3 (focus exact rfl)))
  | (with_reducible apply Ob.mk;skip)
  | ((conv=>whnf);skip)
set_option maxRecDepth 100000 in
theorem e_second:EntryM Tryd.prog anyWorld 53 (spS 5 sq_second):=by
 refine .of_slice CM_o1 (by kernel_rfl) Tryd.func53 (by kernel_rfl) (by kernel_rfl) (fun len g rest c v h hc=> ?_) (fun rest c v h hc ad cap=> ?_)
 · unfold sq_second at h
   split at h
   · cases h
     obtain ⟨h1,h2,c0⟩:=hc
     refine ⟨rfl,rfl,fun T cap=> ?_⟩
     generalize inOf g=x at h2
     subst h2
     exact second_walk T len cap h1 x _ c0
   · cases h
 · unfold sq_second at h
   split at h
   · cases h
     exact absurd hc.2.2 (Nat.not_lt_zero _)
   · cases h
abbrev ms_o2:List (Nat×SpM):=(53,spS 5 sq_second)::ms_o1
theorem CM_o2:CSound Tryd.prog anyWorld (tabM noData tb_o ms_o2):=CM_o1.consM e_second
theorem to_lt {v:BitVec 64} {n:Nat} (hn:n≤8000) (h1:v.slt 0#64=false) (h2:(BitVec.ofNat 64 n).sle v=false):v.toNat<n:=by
 rw [BitVec.slt_eq_decide,show (0#64).toInt=0 by decide] at h1
 rw [BitVec.sle_eq_decide,toInt_ofNat (by omega)] at h2
 simp only [decide_eq_false_iff_not] at h1 h2
 rw [BitVec.toInt_eq_toNat_cond] at h1 h2
 have:=v.isLt
 split at h1<;>omega
def sq_leads (len:Nat) (g:Nat→List PL) (rest:List AV):Option (Cond×AV):=match rest with
 | [.one (.b64 true p)]=>some (Cond.p (len≤8000∧g=inF (inOf g)∧p.toNat<len),.one (.b64 true (wayE (inOf g) len p)))
 | _=>none
set_option maxRecDepth 100000 in
set_option maxHeartbeats 8000000 in
theorem leads_walk (T:TypeId) (len cap:Nat) (hl:len≤8000) (x:IT) (p:BitVec 64) (hc0:p.toNat<len) :
 FI Tryd.prog (tabM noData tb_o ms_o2) Tryd.f27 1 [.one (.slc 0 0 len cap),.one (.b64 true p)] [(0,.ro T [.seg 5 len (inF x)])] (fun r _=>r= .one (.b64 true (wayE x len p))):=by
 repeat' (first
  | (with_reducible apply Given.mk;intro h;(try simp only [reduceCtorEq,Bool.true_eq_false,Bool.false_eq_true] at h);(try ((fail_if_success (have _q:=q0));exact absurd h (by decide))))
  | ((conv=>whnf);first
    | with_reducible apply Both.mk
    | refine LoopP.times 5 ?_))
 all_goals first
  | (with_reducible apply Ob.mk;kernel_rfl)
  | ((with_reducible apply Ob.mk);show len<9223372036854775808;omega)
  | ((fail_if_success (have _q:=q0));with_reducible apply Ob.mk;decide)
  | ((with_reducible apply Ob.mk);exact ixp hl hc0)
  | ((with_reducible apply Ob.mk);exact (ixp hl hc0).2)
  | ((with_reducible apply Ob.mk);exact ixp1 hl hc0 (by with_reducible assumption))
  | ((with_reducible apply Ob.mk);exact (ixp1 hl hc0 (by with_reducible assumption)).2)
  | ((with_reducible apply Ob.mk);exact ixp1 hl hc0 (sle1_t hl hc0 (by with_reducible assumption)))
  | ((with_reducible apply Ob.mk);exact (ixp1 hl hc0 (sle1_t hl hc0 (by with_reducible assumption))).2)
  | ((with_reducible apply Ob.mk);exact ⟨Nat.le_refl _,hl,rfl,hc0⟩)
  | ((with_reducible apply Ob.mk);exact ⟨Nat.le_refl _,hl,rfl,to_lt hl (by with_reducible assumption) (by with_reducible assumption)⟩)
  | ((conv=>whnf);first | rfl | (simp [wayE,toV,inOf_inF, *];done) | (simp_all [wayE,toV,inOf_inF];done))
  | (with_reducible apply Ob.mk;skip)
  | ((conv=>whnf);skip)
set_option maxRecDepth 100000 in
theorem e_leads:EntryM Tryd.prog anyWorld 27 (spS 5 sq_leads):=by
 refine .of_slice CM_o2 (by kernel_rfl) Tryd.func27 (by kernel_rfl) (by kernel_rfl) (fun len g rest c v h hc=> ?_) (fun rest c v h hc ad cap=> ?_)
 · unfold sq_leads at h
   split at h
   · cases h
     obtain ⟨h1,h2,c0⟩:=hc
     refine ⟨rfl,rfl,fun T cap=> ?_⟩
     generalize inOf g=x at h2
     subst h2
     exact leads_walk T len cap h1 x _ c0
   · cases h
 · unfold sq_leads at h
   split at h
   · cases h
     exact absurd hc.2.2 (Nat.not_lt_zero _)
   · cases h
abbrev ms_o3:List (Nat×SpM):=(27,spS 5 sq_leads)::(26,spS 5 sq_alone)::(40,spS 5 sq_field)::ms_o2
theorem CM_o3:CSound Tryd.prog anyWorld (tabM noData tb_o ms_o3):=((CM_o2.consM e_field).consM e_alone).consM e_leads
end Go.Proofs.YthkgakelgdncjaaDoor
