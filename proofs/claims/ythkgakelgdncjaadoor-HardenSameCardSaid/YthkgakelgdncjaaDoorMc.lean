/- HardenSame: what the methods of the document's interpreter do: contracts. Conditions: as typed. -/
import Derived.Test.YthkgakelgdncjaaDoorMj
import Derived.Test.YthkgakelgdncjaaDoorInR
namespace Go.Proofs.YthkgakelgdncjaaDoor
open Go.Ep Go.RowKit
set_option linter.unusedVariables false
set_option linter.unusedSimpArgs false
structure MR where
 R:Nat→BitVec 64
 H:Nat→Bool
 T:Nat→Bool
 W:Nat→Bool
 D:Nat→Bool
def boOf (f:Nat→List PL):Nat→Bool:=fun k=>match f k with
 | [.bool x]=>x
 | _=>false
theorem uOf_uF (R:Nat→BitVec 64):uOf (uF R)=R:=rfl
theorem boOf_bF (R:Nat→Bool):boOf (bF R)=R:=rfl
def mOf (r h t w d:Nat→List PL):MR:=⟨uOf r,boOf h,boOf t,boOf w,boOf d⟩
theorem mOf_eq (m:MR):mOf (uF m.R) (bF m.H) (bF m.T) (bF m.W) (bF m.D)=m:=rfl
theorem MR_eta (m:MR):(⟨m.R,m.H,m.T,m.W,m.D⟩:MR)=m:=rfl
theorem mOf_eq' (R:Nat→BitVec 64) (H T W D:Nat→Bool):mOf (uF R) (bF H) (bF T) (bF W) (bF D)=⟨R,H,T,W,D⟩:=rfl
def mOK (r h t w d:Nat→List PL):Prop:=r=uF (uOf r)∧h=bF (boOf h)∧t=bF (boOf t)∧w=bF (boOf w)∧d=bF (boOf d)
def sLs (w:L) (m:MR):List L:=[.junk,w,.seg 1 11 (uF m.R),.seg 1 11 (bF m.H),.seg 1 11 (bF m.T),.seg 1 512 (bF m.W),.seg 1 64 (bF m.D),.junk,.junk]
def up {α:Type} (f:Nat→α) (k:Nat) (v:α):Nat→α:=fun j=>if j=k then v else f j
theorem upd_u (R:Nat→BitVec 64) (k:Nat) (v:BitVec 64):updF (uF R) k 0 [.b64 false v]=uF (up R k v):=by
 funext j
 by_cases e:j=k
 · subst e;simp [updF,mergeP,pickP,uF,up]
 · simp [updF,mergeP,pickP,uF,up,e]
theorem upd_b (R:Nat→Bool) (k:Nat) (v:Bool):updF (bF R) k 0 [.bool v]=bF (up R k v):=by
 funext j
 by_cases e:j=k
 · subst e;simp [updF,mergeP,pickP,up]
 · simp [updF,mergeP,pickP,up,e]
def MR.set (m:MR) (r:BitVec 8) (v:BitVec 64) (t:Bool):MR:=⟨up m.R r.toNat v,up m.H r.toNat true,up m.T r.toNat t,m.W,m.D⟩
theorem one_c {b b' c:Blk} (e:b'=c):∀ i d,Ep.look [(0,b)] i=some d→Ep.look [(0,b')] i=lookU [(0,c)] i (some d):=fun i d h=>by
 subst e
 rcases i with _ | i
 · rfl
 · have h':(none:Option Blk)=some d:=h
   cases h'
def mkS1:Mask:=fun T q=>match Nat.beq T 95 with
 | true=>inNs q [0,1,7,8]
 | false=>false
def mkO:Mask:=fun T q=>match Nat.beq T 95 with
 | true=>inNs q [0,7,8]
 | false=>match Nat.beq T 73 with
   | true=>inNs q [0,1,3,4,5]
   | false=>false
def mkL:Mask:=fun T q=>match Nat.beq T 95 with
 | true=>inNs q [0,7,8]
 | false=>match Nat.beq T 73 with
   | true=>inNs q [0,1,4,5]
   | false=>false
def immV (i:BitVec 32):BitVec 64:=rSign (BitVec.setWidth 64 i) 32#64
def valueV (m:MR) (o s:BitVec 8) (i:BitVec 32):BitVec 64×Bool×Bool:=if orr o then (m.R s.toNat,m.H s.toNat,m.T s.toNat) else (immV i,true,false)
theorem mOK_ex {r h t w d:Nat→List PL} (H:mOK r h t w d):(∃ x,r=uF x)∧(∃ x,h=bF x)∧(∃ x,t=bF x)∧(∃ x,w=bF x)∧∃ x,d=bF x:=
 ⟨⟨_,H.1⟩,⟨_,H.2.1⟩,⟨_,H.2.2.1⟩,⟨_,H.2.2.2.1⟩,⟨_,H.2.2.2.2⟩⟩
theorem same_h {h:List (Nat×Blk)} {g:List (Nat×Blk)} (e:g=h) {vs:Nat→Nat→Value}:∀ i d,Ep.look h i=some d→Ep.look g i=lookU (stufH vs []) i (some d):=fun i d q=>by subst e;exact q
theorem val_1 {m:MR} {o s:BitVec 8} {i:BitVec 32} (h:orr o=true):valueV m o s i=(m.R s.toNat,m.H s.toNat,m.T s.toNat):=if_pos h
theorem val_0 {m:MR} {o s:BitVec 8} {i:BitVec 32} (h:orr o=false):valueV m o s i=(immV i,true,false):=if_neg (by rw [h];decide)
noncomputable abbrev C_v1:Table:=⟨(tabM noData [(81,sp_firewallref02_Reg),(89,sp_firewallref01_Sign)] []).fn,noData.glob,noData.look,fun _ _ _ _ _=>Stuck "call",.sym,0,0,[],fun _ _ _=>none,[]⟩
theorem C_v1_ok:CSound Tryd.prog anyWorld C_v1:=((CSound.startM ((CSound.start.cons e_firewallref01_Sign).cons e_firewallref02_Reg))).inl' (InlOK.none _ _) .sym 0 0 [] []
def sp_value:SpW:=fun args ch=>match args,ch with
 | [.one (.ptr 0 0),.agg [.b8 false o,.b8 false d,.b8 false s,.b16 true f,.b32 true i]],[(0,.cells 95 [.junk,.junk,.seg 1 11 fR,.seg 1 11 fH,.seg 1 11 fT,.seg 1 512 fW,.seg 1 64 fD,.junk,.junk])]=>some (.p ((s.toNat<11)∧mOK fR fH fT fW fD∧True),.tup [(false,[.b64 false (valueV (mOf fR fH fT fW fD) o s i).1]),(false,[.bool (valueV (mOf fR fH fT fW fD) o s i).2.1]),(false,[.bool (valueV (mOf fR fH fT fW fD) o s i).2.2])],[])
 | _,_=>none
set_option maxRecDepth 100000 in
set_option maxHeartbeats 16000000 in
theorem value_walk (m:MR) (o d s:BitVec 8) (f:BitVec 16) (i:BitVec 32) (vs:Nat→Nat→Value) (hc0:s.toNat<11) :
 FI Tryd.prog C_v1 Tryd.f73 1 [.one (.ptr 0 0),.agg [.b8 false o,.b8 false d,.b8 false s,.b16 true f,.b32 true i]] [(0,.cells 95 [.raw (vs 0 0),.raw (vs 0 1),.seg 1 11 (uF m.R),.seg 1 11 (bF m.H),.seg 1 11 (bF m.T),.seg 1 512 (bF m.W),.seg 1 64 (bF m.D),.raw (vs 0 7),.raw (vs 0 8)])] (fun u g=>u= .tup [(false,[.b64 false (valueV m o s i).1]),(false,[.bool (valueV m o s i).2.1]),(false,[.bool (valueV m o s i).2.2])]∧∀ jj bb,Ep.look [(0,.cells 95 [.raw (vs 0 0),.raw (vs 0 1),.seg 1 11 (uF m.R),.seg 1 11 (bF m.H),.seg 1 11 (bF m.T),.seg 1 512 (bF m.W),.seg 1 64 (bF m.D),.raw (vs 0 7),.raw (vs 0 8)])] jj=some bb→Ep.look g jj=lookU (stufH vs []) jj (some bb)):=by
 repeat' (first
  | (with_reducible apply Given.mk;intro h;(try simp only [uOf_uF,boOf_bF,mOf_eq,mOf_eq',MR_eta,rgOf_rgF,Bool.not_eq_true',Bool.not_eq_false'] at h);(try exact absurd h (by decide)))
  | ((conv=>whnf);first
    | with_reducible apply Both.mk
    | fail))
 all_goals first
  | ((with_reducible apply Ob.mk);exact hc0)
  | ((conv=>whnf);refine ⟨?_,same_h rfl⟩;first | rw [val_1 h] | (rw [val_0 h];rfl))
  | ((with_reducible apply Ob.mk);kernel_rfl)
set_option maxRecDepth 100000 in
theorem e_value:EntryO Tryd.prog anyWorld 73 sp_value:=by
 refine .of_FI C_v1_ok (by kernel_rfl) Tryd.func73 (by kernel_rfl) (by kernel_rfl) (fun args ch c v ups h hc vs=> ?_)
 unfold sp_value at h
 split at h
 · rename_i o d s f i fR fH fT fW fD
   cases h
   obtain ⟨hc0,hm,-⟩:=hc
   obtain ⟨⟨R,rfl⟩,⟨H,rfl⟩,⟨Tg,rfl⟩,⟨Wr,rfl⟩,⟨D,rfl⟩⟩:=mOK_ex hm
   exact value_walk ⟨R,H,Tg,Wr,D⟩ o d s f i vs hc0
 · cases h
noncomputable abbrev C_0:Table:=⟨(tabM noData [] []).fn,noData.glob,noData.look,fun _ _ _ _ _=>Stuck "call",.sym,0,0,[],fun _ _ _=>none,[]⟩
theorem C_0_ok:CSound Tryd.prog anyWorld C_0:=((CSound.startM CSound.start)).inl' (InlOK.none _ _) .sym 0 0 [] []
def sp_set:SpW:=fun args ch=>match args,ch with
 | [.one (.ptr 0 0),.one (.b8 false n),.one (.b64 false v),.one (.bool t)],[(0,.cells 95 [.junk,.junk,.seg 1 11 fR,.seg 1 11 fH,.seg 1 11 fT,.seg 1 512 fW,.seg 1 64 fD,.junk,.junk])]=>some (.p ((n.toNat<11)∧mOK fR fH fT fW fD∧True),.tup [],[(0,.cells 95 (sLs .junk (MR.set (mOf fR fH fT fW fD) n v t)))])
 | _,_=>none
set_option maxRecDepth 100000 in
set_option maxHeartbeats 16000000 in
theorem set_walk (m:MR) (n:BitVec 8) (v:BitVec 64) (t:Bool) (vs:Nat→Nat→Value) (hc0:n.toNat<11) :
 FI Tryd.prog C_0 Tryd.f64 1 [.one (.ptr 0 0),.one (.b8 false n),.one (.b64 false v),.one (.bool t)] [(0,.cells 95 [.raw (vs 0 0),.raw (vs 0 1),.seg 1 11 (uF m.R),.seg 1 11 (bF m.H),.seg 1 11 (bF m.T),.seg 1 512 (bF m.W),.seg 1 64 (bF m.D),.raw (vs 0 7),.raw (vs 0 8)])] (fun u g=>u= .tup []∧∀ jj bb,Ep.look [(0,.cells 95 [.raw (vs 0 0),.raw (vs 0 1),.seg 1 11 (uF m.R),.seg 1 11 (bF m.H),.seg 1 11 (bF m.T),.seg 1 512 (bF m.W),.seg 1 64 (bF m.D),.raw (vs 0 7),.raw (vs 0 8)])] jj=some bb→Ep.look g jj=lookU (stufH vs [(0,.cells 95 (sLs .junk (MR.set m n v t)))]) jj (some bb)):=by
 repeat' (first
  | (with_reducible apply Given.mk;intro h;(try simp only [uOf_uF,boOf_bF,mOf_eq,mOf_eq',MR_eta,rgOf_rgF,Bool.not_eq_true',Bool.not_eq_false'] at h);(try exact absurd h (by decide)))
  | ((conv=>whnf);first
    | with_reducible apply Both.mk
    | fail))
 all_goals first
  | ((with_reducible apply Ob.mk);exact hc0)
  | ((conv=>whnf);exact ⟨rfl,one_c (by rw [upd_u,upd_b,upd_b];rfl)⟩)
  | ((with_reducible apply Ob.mk);kernel_rfl)
  | ((conv=>whnf);kernel_rfl)
set_option maxRecDepth 100000 in
theorem e_set:EntryO Tryd.prog anyWorld 64 sp_set:=by
 refine .of_FI C_0_ok (by kernel_rfl) Tryd.func64 (by kernel_rfl) (by kernel_rfl) (fun args ch c v ups h hc vs=> ?_)
 unfold sp_set at h
 split at h
 · rename_i n v t fR fH fT fW fD
   cases h
   obtain ⟨hc0,hm,-⟩:=hc
   obtain ⟨⟨R,rfl⟩,⟨H,rfl⟩,⟨Tg,rfl⟩,⟨Wr,rfl⟩,⟨D,rfl⟩⟩:=mOK_ex hm
   exact set_walk ⟨R,H,Tg,Wr,D⟩ n v t vs hc0
 · cases h
def ownsV (own:RT) (co:Nat) (a n:BitVec 64):Bool:=(0#64).slt n&&(0#64).sle (atV own co a n)
noncomputable abbrev C_ow:Table:=⟨(tabM noData [] [(82,spD sp_at)]).fn,noData.glob,noData.look,fun _ _ _ _ _=>Stuck "call",.sym,0,0,[],fun _ _ _=>none,[]⟩
theorem C_ow_ok:CSound Tryd.prog anyWorld C_ow:=(((CSound.startM CSound.start).consM e_at)).inl' (InlOK.none _ _) .sym 0 0 [] []
def sp_owns:SpW:=fun args ch=>match args,ch with
 | [.one (.ptr 0 0),.one (.b64 false a),.one (.b64 true n)],[(0,.cells 73 [.junk,.junk,.rsl 1 co,.junk,.junk,.junk]),(1,.row TO 3 co' fo)]=>some (.p ((co=co'∧fo=rgF (rgOf fo)∧RgOK (rgOf fo) co)∧True),.one (.bool (ownsV (rgOf fo) co a n)),[])
 | _,_=>none
set_option maxRecDepth 100000 in
set_option maxHeartbeats 16000000 in
theorem owns_walk (TO:TypeId) (co:Nat) (own:RT) (a n:BitVec 64) (vs:Nat→Nat→Value) (RO:RgOK own co) :
 FI Tryd.prog C_ow Tryd.f101 2 [.one (.ptr 0 0),.one (.b64 false a),.one (.b64 true n)] [(0,.cells 73 [.raw (vs 0 0),.raw (vs 0 1),.rsl 1 co,.raw (vs 0 3),.raw (vs 0 4),.raw (vs 0 5)]),(1,.row TO 3 co (rgF own))] (fun u g=>u= .one (.bool (ownsV own co a n))∧∀ jj bb,Ep.look [(0,.cells 73 [.raw (vs 0 0),.raw (vs 0 1),.rsl 1 co,.raw (vs 0 3),.raw (vs 0 4),.raw (vs 0 5)]),(1,.row TO 3 co (rgF own))] jj=some bb→Ep.look g jj=lookU (stufH vs []) jj (some bb)):=by
 repeat' (first
  | (with_reducible apply Given.mk;intro h;(try simp only [uOf_uF,boOf_bF,mOf_eq,mOf_eq',MR_eta,rgOf_rgF,Bool.not_eq_true',Bool.not_eq_false'] at h);(try exact absurd h (by decide)))
  | ((conv=>whnf);first
    | with_reducible apply Both.mk
    | fail))
 all_goals first
  | ((with_reducible apply Ob.mk);exact ⟨Nat.le_refl _,rfl,RO⟩)
  | ((with_reducible apply Ob.mk);with_reducible exact RO)
  | ((conv=>whnf);refine ⟨?_,same_h rfl⟩;first | rfl | (unfold ownsV;simp only [h];rfl))
  | ((with_reducible apply Ob.mk);kernel_rfl)
set_option maxRecDepth 100000 in
theorem e_owns:EntryO Tryd.prog anyWorld 101 sp_owns:=by
 refine .of_FI C_ow_ok (by kernel_rfl) Tryd.func101 (by kernel_rfl) (by kernel_rfl) (fun args ch c v ups h hc vs=> ?_)
 unfold sp_owns at h
 split at h
 · rename_i a n co TO co' fo
   cases h
   obtain ⟨⟨rfl,ho,RO⟩,-⟩:=hc
   obtain ⟨own,rfl⟩:∃ x,fo=rgF x:=⟨_,ho⟩
   exact owns_walk TO co own a n vs RO
 · cases h
abbrev addrV (m:MR) (n:BitVec 8) (f:BitVec 16):BitVec 64:=m.R n.toNat + rSign (BitVec.signExtend 64 f) 16#64
def asksB (m:MR) (own:RT) (co:Nat) (n:BitVec 8) (f:BitVec 16) (z:BitVec 64):Bool:=m.T n.toNat&&ownsV own co (addrV m n f) z
def asksV (m:MR) (own:RT) (co:Nat) (n:BitVec 8) (f:BitVec 16) (z:BitVec 64):BitVec 64×BitVec 64:=if asksB m own co n f z then (addrV m n f,0#64) else (0#64,70#64)
theorem asks_1 {m:MR} {own:RT} {co:Nat} {n:BitVec 8} {f:BitVec 16} {z:BitVec 64} (h1:m.T n.toNat=true) (h:ownsV own co (addrV m n f) z=true):asksV m own co n f z=(addrV m n f,0#64):=if_pos (by unfold asksB;rw [h1,h];rfl)
theorem asks_2 {m:MR} {own:RT} {co:Nat} {n:BitVec 8} {f:BitVec 16} {z:BitVec 64} (h1:m.T n.toNat=false):asksV m own co n f z=(0#64,70#64):=if_neg (by unfold asksB;rw [h1];exact Bool.false_ne_true)
theorem asks_3 {m:MR} {own:RT} {co:Nat} {n:BitVec 8} {f:BitVec 16} {z:BitVec 64} (h:ownsV own co (addrV m n f) z=false):asksV m own co n f z=(0#64,70#64):=if_neg (by unfold asksB;rw [h,Bool.and_false];exact Bool.false_ne_true)
noncomputable abbrev C_as:Table:=⟨(tabM noData [(89,sp_firewallref01_Sign)] []).fn,noData.glob,noData.look,oInl [(101,(mkO,sp_owns))] (fun _ _ _ _ _=>Stuck "call"),.sym,0,0,[],fun _ _ _=>none,[]⟩
theorem C_as_ok:CSound Tryd.prog anyWorld C_as:=((CSound.startM (CSound.start.cons e_firewallref01_Sign))).inl' (oInl_sound (.cons e_owns .nil) (InlOK.none _ _)) .sym 0 0 [] []
def sp_asks:SpW:=fun args ch=>match args,ch with
 | [.one (.ptr 0 0),.one (.b8 false n),.one (.b16 true f),.one (.b64 true z)],[(0,.cells 95 [.junk,.ptr 1 0,.seg 1 11 fR,.seg 1 11 fH,.seg 1 11 fT,.seg 1 512 fW,.seg 1 64 fD,.junk,.junk]),(1,.cells 73 [.junk,.junk,.rsl 2 co,.junk,.junk,.junk]),(2,.row TO 3 co' fo)]=>some (.p ((n.toNat<11)∧mOK fR fH fT fW fD∧(co=co'∧fo=rgF (rgOf fo)∧RgOK (rgOf fo) co)∧True),.tup [(false,[.b64 false (asksV (mOf fR fH fT fW fD) (rgOf fo) co n f z).1]),(false,[.b64 true (asksV (mOf fR fH fT fW fD) (rgOf fo) co n f z).2])],[])
 | _,_=>none
set_option maxRecDepth 100000 in
set_option maxHeartbeats 16000000 in
theorem asks_walk (m:MR) (TO:TypeId) (co:Nat) (own:RT) (n:BitVec 8) (f:BitVec 16) (z:BitVec 64) (vs:Nat→Nat→Value) (hc0:n.toNat<11) (RO:RgOK own co) :
 FI Tryd.prog C_as Tryd.f86 3 [.one (.ptr 0 0),.one (.b8 false n),.one (.b16 true f),.one (.b64 true z)] [(0,.cells 95 [.raw (vs 0 0),.ptr 1 0,.seg 1 11 (uF m.R),.seg 1 11 (bF m.H),.seg 1 11 (bF m.T),.seg 1 512 (bF m.W),.seg 1 64 (bF m.D),.raw (vs 0 7),.raw (vs 0 8)]),(1,.cells 73 [.raw (vs 1 0),.raw (vs 1 1),.rsl 2 co,.raw (vs 1 3),.raw (vs 1 4),.raw (vs 1 5)]),(2,.row TO 3 co (rgF own))] (fun u g=>u= .tup [(false,[.b64 false (asksV m own co n f z).1]),(false,[.b64 true (asksV m own co n f z).2])]∧∀ jj bb,Ep.look [(0,.cells 95 [.raw (vs 0 0),.ptr 1 0,.seg 1 11 (uF m.R),.seg 1 11 (bF m.H),.seg 1 11 (bF m.T),.seg 1 512 (bF m.W),.seg 1 64 (bF m.D),.raw (vs 0 7),.raw (vs 0 8)]),(1,.cells 73 [.raw (vs 1 0),.raw (vs 1 1),.rsl 2 co,.raw (vs 1 3),.raw (vs 1 4),.raw (vs 1 5)]),(2,.row TO 3 co (rgF own))] jj=some bb→Ep.look g jj=lookU (stufH vs []) jj (some bb)):=by
 repeat' (first
  | (with_reducible apply Given.mk;intro h;(try simp only [uOf_uF,boOf_bF,mOf_eq,mOf_eq',MR_eta,rgOf_rgF,Bool.not_eq_true',Bool.not_eq_false'] at h);(try exact absurd h (by decide)))
  | ((conv=>whnf);first
    | with_reducible apply Both.mk
    | fail))
 all_goals first
  | ((with_reducible apply Ob.mk);exact hc0)
  | ((with_reducible apply Ob.mk);exact ⟨⟨rfl,rfl,RO⟩,trivial⟩)
  | ((conv=>whnf);refine ⟨?_,same_h rfl⟩;first | rw [asks_2 (by with_reducible assumption)] | rw [asks_3 (by with_reducible assumption)] | (rw [asks_1 (by with_reducible assumption) (by with_reducible assumption)];try rfl))
  | ((with_reducible apply Ob.mk);kernel_rfl)
set_option maxRecDepth 100000 in
theorem e_asks:EntryO Tryd.prog anyWorld 86 sp_asks:=by
 refine .of_FI C_as_ok (by kernel_rfl) Tryd.func86 (by kernel_rfl) (by kernel_rfl) (fun args ch c v ups h hc vs=> ?_)
 unfold sp_asks at h
 split at h
 · rename_i n f z fR fH fT fW fD co TO co' fo
   cases h
   obtain ⟨hc0,hm,⟨rfl,ho,RO⟩,-⟩:=hc
   obtain ⟨⟨R,rfl⟩,⟨H,rfl⟩,⟨Tg,rfl⟩,⟨Wr,rfl⟩,⟨D,rfl⟩⟩:=mOK_ex hm
   obtain ⟨own,rfl⟩:∃ x,fo=rgF x:=⟨_,ho⟩
   exact asks_walk ⟨R,H,Tg,Wr,D⟩ TO co own n f z vs hc0 RO
 · cases h
def allW (W:Nat→Bool) (a:Nat):Nat→Bool
 | 0=>true
 | j + 1=>allW W a j&&W (a + j)
def hlD (D:Nat→Bool) (a:Nat):Nat→Bool
 | 0=>false
 | j + 1=>hlD D a j||D ((a + j) / 8)
def mayV (m:MR) (a n:BitVec 64):Bool×BitVec 64:=
 if sheerB a then (if n==8#64&&(a==65536#64||a==65544#64) then (true,0#64) else (false,102#64)) else if (stackV a).slt 0#64 then (false,0#64)
 else if allW m.W (stackV a).toNat n.toNat then (if hlD m.D (stackV a).toNat n.toNat&&(n != 8#64||(0#64).slt ((stackV a).srem 8#64)) then (false,102#64) else (hlD m.D (stackV a).toNat n.toNat,0#64)) else (false,101#64)
abbrev InS (a n:BitVec 64):Prop:=(stackV a).slt 0#64=false→(stackV a).toNat + n.toNat≤512
theorem at_0 {x:BitVec 64}:AV.one (.b64 true x)=AV.one (.b64 true (x + BitVec.ofNat 64 0)):=by simp
theorem at_s {x:BitVec 64} {j:Nat}:AV.one (.b64 true (x + BitVec.ofNat 64 j + 1#64))=AV.one (.b64 true (x + BitVec.ofNat 64 (j + 1))):=by rw [BitVec.add_assoc,show (1#64)=BitVec.ofNat 64 1 from rfl,← BitVec.ofNat_add]
theorem at_n {x n:BitVec 64} {j:Nat} (hx:x.toNat + n.toNat≤512) (hj:j≤n.toNat):(x + BitVec.ofNat 64 j).toNat=x.toNat + j:=by
 rw [BitVec.toNat_add,BitVec.toNat_ofNat,Nat.mod_eq_of_lt (show j<2 ^ 64 by omega),Nat.mod_eq_of_lt (by omega)]
theorem at_i {x:BitVec 64} (h:x.toNat≤512):x.toInt=(x.toNat:Int):=by rw [BitVec.toInt_eq_toNat_cond,if_pos (by omega)]
theorem at_lt {x n:BitVec 64} {j:Nat} (hx:x.toNat + n.toNat≤512) (hj:j≤n.toNat):(x + BitVec.ofNat 64 j).slt (x + n)=decide (j<n.toNat):=by
 have h1:=at_n hx hj
 have h2:(x + n).toNat=x.toNat + n.toNat:=by rw [BitVec.toNat_add,Nat.mod_eq_of_lt (by omega)]
 rw [BitVec.slt_eq_decide,at_i (by omega),at_i (by omega),h1,h2]
 exact decide_eq_decide.2 (by omega)
theorem at_d {x n:BitVec 64} {j:Nat} (hx:x.toNat + n.toNat≤512) (hj:j≤n.toNat):((x + BitVec.ofNat 64 j).sdiv 8#64).toNat=(x.toNat + j) / 8:=by
 have h1:=at_n hx hj
 have h3:(x + BitVec.ofNat 64 j).msb=false:=by
  rw [BitVec.msb_eq_decide,decide_eq_false_iff_not];omega
 rw [BitVec.sdiv_eq,h3,show (8#64).msb=false from rfl]
 show ((x + BitVec.ofNat 64 j).udiv 8#64).toNat=_
 rw [BitVec.udiv_eq,BitVec.toNat_udiv,h1];rfl
theorem at_ix {x n:BitVec 64} {j:Nat} (hx:x.toNat + n.toNat≤512) (hj:j<n.toNat):0≤(x + BitVec.ofNat 64 j).toInt∧(x + BitVec.ofNat 64 j).toNat<512:=by
 have h1:=at_n hx (Nat.le_of_lt hj)
 rw [at_i (by omega),h1];omega
theorem at_ix8 {x n:BitVec 64} {j:Nat} (hx:x.toNat + n.toNat≤512) (hj:j<n.toNat):0≤((x + BitVec.ofNat 64 j).sdiv 8#64).toInt∧((x + BitVec.ofNat 64 j).sdiv 8#64).toNat<64:=by
 have h1:=at_d hx (Nat.le_of_lt hj)
 rw [at_i (by rw [h1];omega),h1];omega
theorem at_go {x n:BitVec 64} {j:Nat} (hx:x.toNat + n.toNat≤512) (hj:j≤n.toNat) (h:(x + BitVec.ofNat 64 j).slt (x + n)=true):j<n.toNat:=by rw [at_lt hx hj] at h;exact of_decide_eq_true h
theorem at_end' {x n:BitVec 64} {j:Nat} (hx:x.toNat + n.toNat≤512) (hj:j≤n.toNat) (h:(x + BitVec.ofNat 64 j).slt (x + n)=false):j=n.toNat:=by
 rw [at_lt hx hj] at h
 have:=of_decide_eq_false h
 omega
theorem allW_no {W:Nat→Bool} {a:Nat}:∀ {n j:Nat},j<n→W (a + j)=false→allW W a n=false
 | n + 1,j,h,e=>by
   unfold allW
   by_cases hj:j=n
   · subst hj;rw [e,Bool.and_false]
   · rw [allW_no (show j<n by omega) e,Bool.false_and]
theorem may_w {m:MR} {x n:BitVec 64} {j:Nat} (hx:x.toNat + n.toNat≤512) (hj:j<n.toNat) (h:m.W (x + BitVec.ofNat 64 j).toNat=false):allW m.W x.toNat n.toNat=false:=allW_no hj (by rw [at_n hx (Nat.le_of_lt hj)] at h;exact h)
theorem may_x {W:Nat→Bool} {x n:BitVec 64} {j:Nat} (hx:x.toNat + n.toNat≤512) (hj:j<n.toNat) (h:W (x + BitVec.ofNat 64 j).toNat=true) (hw:allW W x.toNat j=true):allW W x.toNat (j + 1)=true:=by
 rw [at_n hx (Nat.le_of_lt hj)] at h
 unfold allW;rw [hw,h];rfl
theorem hl_t {D:Nat→Bool} {a j:Nat} (h:hlD D a j=true):AV.one (.bool true)=AV.one (.bool (hlD D a (j + 1))):=by unfold hlD;rw [h];rfl
theorem hl_f {D:Nat→Bool} {x n:BitVec 64} {j:Nat} (hx:x.toNat + n.toNat≤512) (hj:j<n.toNat) (h:hlD D x.toNat j=false):AV.one (.bool (D ((x + BitVec.ofNat 64 j).sdiv 8#64).toNat))=AV.one (.bool (hlD D x.toNat (j + 1))):=by
 unfold hlD;rw [h,at_d hx (Nat.le_of_lt hj)];rfl
noncomputable abbrev C_may:Table:=⟨(tabM noData [(90,sp_firewallref10_sheer),(91,sp_firewallref10_stack)] []).fn,noData.glob,noData.look,fun _ _ _ _ _=>Stuck "call",.sym,0,0,[],fun _ _ _=>none,[]⟩
theorem C_may_ok:CSound Tryd.prog anyWorld C_may:=((CSound.startM ((CSound.start.cons e_firewallref10_stack).cons e_firewallref10_sheer))).inl' (InlOK.none _ _) .sym 0 0 [] []
def sp_may:SpW:=fun args ch=>match args,ch with
 | [.one (.ptr 0 0),.one (.b64 false a),.one (.b64 true n)],[(0,.cells 95 [.junk,.junk,.seg 1 11 fR,.seg 1 11 fH,.seg 1 11 fT,.seg 1 512 fW,.seg 1 64 fD,.junk,.junk])]=>some (.p ((InS a n)∧mOK fR fH fT fW fD∧True),.tup [(false,[.bool (mayV (mOf fR fH fT fW fD) a n).1]),(false,[.b64 true (mayV (mOf fR fH fT fW fD) a n).2])],[])
 | _,_=>none
set_option maxRecDepth 100000 in
set_option maxHeartbeats 16000000 in
theorem may_walk (m:MR) (a n:BitVec 64) (vs:Nat→Nat→Value) (hc0:InS a n) :
 FI Tryd.prog C_may Tryd.f87 1 [.one (.ptr 0 0),.one (.b64 false a),.one (.b64 true n)] [(0,.cells 95 [.raw (vs 0 0),.raw (vs 0 1),.seg 1 11 (uF m.R),.seg 1 11 (bF m.H),.seg 1 11 (bF m.T),.seg 1 512 (bF m.W),.seg 1 64 (bF m.D),.raw (vs 0 7),.raw (vs 0 8)])] (fun u g=>u= .tup [(false,[.bool (mayV m a n).1]),(false,[.b64 true (mayV m a n).2])]∧∀ jj bb,Ep.look [(0,.cells 95 [.raw (vs 0 0),.raw (vs 0 1),.seg 1 11 (uF m.R),.seg 1 11 (bF m.H),.seg 1 11 (bF m.T),.seg 1 512 (bF m.W),.seg 1 64 (bF m.D),.raw (vs 0 7),.raw (vs 0 8)])] jj=some bb→Ep.look g jj=lookU (stufH vs []) jj (some bb)):=by
 repeat' (first
  | (with_reducible apply Given.mk;intro h;(try simp only [uOf_uF,boOf_bF,mOf_eq,mOf_eq',MR_eta,rgOf_rgF,Bool.not_eq_true',Bool.not_eq_false'] at h);(try exact absurd h (by decide)))
  | ((conv=>whnf);first
    | with_reducible apply Both.mk
    | refine LoopP.mk (Nat) (fun j=>j≤n.toNat∧allW m.W (stackV a).toNat j=true) ((fun j=>mkS (Tryd.f87).ntmps [(0,.one (.ptr 0 0)),(1,.one (.b64 false a)),(2,.one (.b64 true n)),(8,.one (.b64 true (stackV a))),(9,.one (.bool (hlD m.D (stackV a).toNat j))),(10,.one (.b64 true (stackV a + BitVec.ofNat 64 j)))] [(0,.cells 95 [.raw (vs 0 0),.raw (vs 0 1),.seg 1 11 (uF m.R),.seg 1 11 (bF m.H),.seg 1 11 (bF m.T),.seg 1 512 (bF m.W),.seg 1 64 (bF m.D),.raw (vs 0 7),.raw (vs 0 8)])])) (fun j=>n.toNat - j) ⟨0,⟨Nat.zero_le _,rfl⟩,⟨?_,?_,?_,?_,?_⟩⟩ ?_;(iterate 2 (focus ((repeat' ((conv=>whnf);first | exact trivial | refine Both.mk (by first | with_reducible rfl | exact iN_succ _ | exact at_0 | rfl) ?_));done)));(iterate 3 (focus exact rfl));(rintro j ⟨qj,qw⟩)))
 all_goals first
  | ((with_reducible apply Ob.mk);with_reducible exact (at_ix (hc0 (by with_reducible assumption)) (at_go (hc0 (by with_reducible assumption)) qj (by with_reducible assumption))).2)
  | ((with_reducible apply Ob.mk);with_reducible exact (at_ix8 (hc0 (by with_reducible assumption)) (at_go (hc0 (by with_reducible assumption)) qj (by with_reducible assumption))).2)
  | ((with_reducible apply Ob.mk);with_reducible exact at_ix (hc0 (by with_reducible assumption)) (at_go (hc0 (by with_reducible assumption)) qj (by with_reducible assumption)))
  | ((with_reducible apply Ob.mk);with_reducible exact at_ix8 (hc0 (by with_reducible assumption)) (at_go (hc0 (by with_reducible assumption)) qj (by with_reducible assumption)))
  | ((with_reducible apply Ob.mk);decide)
  | ((conv=>whnf);refine ⟨j + 1,⟨at_go (hc0 (by with_reducible assumption)) qj (by with_reducible assumption),may_x (hc0 (by with_reducible assumption)) (at_go (hc0 (by with_reducible assumption)) qj (by with_reducible assumption)) (by with_reducible assumption) qw⟩,(by have:=at_go (hc0 (by with_reducible assumption)) qj (by with_reducible assumption);omega),⟨?_,?_,?_,?_,?_⟩⟩;(iterate 2 (focus ((repeat' ((conv=>whnf);first | exact trivial | refine Both.mk (by first | with_reducible rfl | exact iN_succ _ | exact at_s | exact hl_t (by with_reducible assumption) | exact hl_f (hc0 (by with_reducible assumption)) (at_go (hc0 (by with_reducible assumption)) qj (by with_reducible assumption)) (by with_reducible assumption) | rfl) ?_));done)));(iterate 3 (focus exact rfl)))
  | ((have e:=may_w (hc0 (by with_reducible assumption)) (at_go (hc0 (by with_reducible assumption)) qj (by with_reducible assumption)) (by with_reducible assumption));(conv=>whnf);refine ⟨?_,same_h rfl⟩;simp only [mayV, *,if_true,if_false,Bool.false_eq_true,Bool.true_and,Bool.false_and,Bool.and_true,Bool.and_false,Bool.true_or,Bool.or_true,Bool.false_or,Bool.or_false,reduceIte])
  | ((have e:=at_end' (hc0 (by with_reducible assumption)) qj (by with_reducible assumption));(conv=>whnf);refine ⟨?_,same_h rfl⟩;simp only [mayV];rw [← e];clear e;simp only [*,if_true,if_false,Bool.false_eq_true,Bool.true_and,Bool.false_and,Bool.and_true,Bool.and_false,Bool.true_or,Bool.or_true,Bool.false_or,Bool.or_false,reduceIte];done)
  | ((conv=>whnf);refine ⟨?_,same_h rfl⟩;simp only [mayV, *,if_true,if_false,Bool.false_eq_true,Bool.true_and,Bool.false_and,Bool.and_true,Bool.and_false,Bool.true_or,Bool.or_true,Bool.false_or,Bool.or_false,reduceIte];done)
  | ((with_reducible apply Ob.mk);kernel_rfl)
set_option maxRecDepth 100000 in
theorem e_may:EntryO Tryd.prog anyWorld 87 sp_may:=by
 refine .of_FI C_may_ok (by kernel_rfl) Tryd.func87 (by kernel_rfl) (by kernel_rfl) (fun args ch c v ups h hc vs=> ?_)
 unfold sp_may at h
 split at h
 · rename_i a n fR fH fT fW fD
   cases h
   obtain ⟨hc0,hm,-⟩:=hc
   obtain ⟨⟨R,rfl⟩,⟨H,rfl⟩,⟨Tg,rfl⟩,⟨Wr,rfl⟩,⟨D,rfl⟩⟩:=mOK_ex hm
   exact may_walk ⟨R,H,Tg,Wr,D⟩ a n vs hc0
 · cases h
def OwnW (own:RT) (co:Nat):Prop:=∀ k,k<co→((own k).b.toNat=131072∧(own k).d.size=512)∨(own k).b.toNat + (own k).d.size≤131072∨131584≤(own k).b.toNat
theorem own_in {own:RT} {co:Nat} {a z:BitVec 64} (R:RgOK own co) (W:OwnW own co) (h:ownsV own co a z=true):InS a z:=fun hs=>by
 unfold ownsV at h
 obtain ⟨h1,h2⟩:=Bool.and_eq_true_iff.1 h
 have h3:(atV own co a z).slt 0#64=false:=ge_1 h2
 obtain ⟨q1,-,q3⟩:=at_spec R h3
 generalize (atV own co a z).toNat=k at q1 q3
 have hz:0<z.toNat:=by
  have:=BitVec.slt_iff_toInt_lt.1 h1
  have e0:(0#64).toInt=0:=rfl
  rw [e0,BitVec.toInt_eq_toNat_cond] at this
  split at this<;>omega
 have hsz:=R.size k q1
 unfold hitB at q3
 simp only [Bool.and_eq_true] at q3
 obtain ⟨p1,p2,p3⟩:=q3
 have p1:=BitVec.ule_iff_le.1 p1;rw [BitVec.le_def] at p1
 have e1:(a - (own k).b).toNat=a.toNat - (own k).b.toNat:=by rw [BitVec.toNat_sub];have:=a.isLt;have:=(own k).b.isLt;omega
 have e2:(BitVec.ofNat 64 (own k).d.size).toNat=(own k).d.size:=nat_ofNat (by omega)
 have p2:=BitVec.ule_iff_le.1 p2;rw [BitVec.le_def,e1,e2] at p2
 have p3:=BitVec.ule_iff_le.1 p3;rw [BitVec.le_def,BitVec.toNat_sub,e1,e2] at p3
 unfold stackV at hs ⊢
 split at hs
 · exact absurd hs (by decide)
 · rename_i g
   rw [if_neg g]
   simp only [Bool.or_eq_true,not_or,Bool.not_eq_true] at g
   have g1:¬ (a<131072#64):=by rw [← BitVec.ult_iff_lt,g.1];decide
   have g2:¬ (131584#64≤a):=by rw [← BitVec.ule_iff_le,g.2];decide
   rw [BitVec.lt_def] at g1
   rw [BitVec.le_def] at g2
   have c1:(131072#64).toNat=131072:=rfl
   have c2:(131584#64).toNat=131584:=rfl
   rw [c1] at g1;rw [c2] at g2
   have e3:(a - 131072#64).toNat=a.toNat - 131072:=by rw [BitVec.toNat_sub,c1];have:=a.isLt;omega
   rw [e3]
   rcases W k q1 with ⟨w1,w2⟩ | w | w<;>omega
theorem asks_in {m:MR} {own:RT} {co:Nat} {n:BitVec 8} {f:BitVec 16} {z:BitVec 64} (R:RgOK own co) (W:OwnW own co) (h:((asksV m own co n f z).2 != 0#64)=false):InS (asksV m own co n f z).1 z:=by
 unfold asksV at h ⊢
 cases e:asksB m own co n f z with
 | false=>rw [e] at h;exact absurd h (by rw [if_neg Bool.false_ne_true];decide)
 | true=>
   rw [if_pos rfl]
   unfold asksB at e
   exact own_in R W (Bool.and_eq_true_iff.1 e).2
def givenV (m:MR) (own:RT) (co:Nat) (n:BitVec 8) (z:BitVec 64):BitVec 64:=
 if (asksV m own co n 0#16 z).2 != 0#64 then (asksV m own co n 0#16 z).2 else if (mayV m (asksV m own co n 0#16 z).1 z).1 then 102#64 else (mayV m (asksV m own co n 0#16 z).1 z).2
noncomputable abbrev C_gi:Table:=⟨(tabM noData [] []).fn,noData.glob,noData.look,oInl [(86,(mkO,sp_asks)),(87,(mkS1,sp_may))] (fun _ _ _ _ _=>Stuck "call"),.sym,0,0,[],fun _ _ _=>none,[]⟩
theorem C_gi_ok:CSound Tryd.prog anyWorld C_gi:=((CSound.startM CSound.start)).inl' (oInl_sound (.cons e_asks (.cons e_may .nil)) (InlOK.none _ _)) .sym 0 0 [] []
def sp_given:SpW:=fun args ch=>match args,ch with
 | [.one (.ptr 0 0),.one (.b8 false n),.one (.b64 true z)],[(0,.cells 95 [.junk,.ptr 1 0,.seg 1 11 fR,.seg 1 11 fH,.seg 1 11 fT,.seg 1 512 fW,.seg 1 64 fD,.junk,.junk]),(1,.cells 73 [.junk,.junk,.rsl 2 co,.junk,.junk,.junk]),(2,.row TO 3 co' fo)]=>some (.p ((n.toNat<11)∧(OwnW (rgOf fo) co)∧mOK fR fH fT fW fD∧(co=co'∧fo=rgF (rgOf fo)∧RgOK (rgOf fo) co)∧True),.one (.b64 true (givenV (mOf fR fH fT fW fD) (rgOf fo) co n z)),[])
 | _,_=>none
set_option maxRecDepth 100000 in
set_option maxHeartbeats 16000000 in
theorem given_walk (m:MR) (TO:TypeId) (co:Nat) (own:RT) (n:BitVec 8) (z:BitVec 64) (vs:Nat→Nat→Value) (hc0:n.toNat<11) (hc1:OwnW own co) (RO:RgOK own co) :
 FI Tryd.prog C_gi Tryd.f94 3 [.one (.ptr 0 0),.one (.b8 false n),.one (.b64 true z)] [(0,.cells 95 [.raw (vs 0 0),.ptr 1 0,.seg 1 11 (uF m.R),.seg 1 11 (bF m.H),.seg 1 11 (bF m.T),.seg 1 512 (bF m.W),.seg 1 64 (bF m.D),.raw (vs 0 7),.raw (vs 0 8)]),(1,.cells 73 [.raw (vs 1 0),.raw (vs 1 1),.rsl 2 co,.raw (vs 1 3),.raw (vs 1 4),.raw (vs 1 5)]),(2,.row TO 3 co (rgF own))] (fun u g=>u= .one (.b64 true (givenV m own co n z))∧∀ jj bb,Ep.look [(0,.cells 95 [.raw (vs 0 0),.ptr 1 0,.seg 1 11 (uF m.R),.seg 1 11 (bF m.H),.seg 1 11 (bF m.T),.seg 1 512 (bF m.W),.seg 1 64 (bF m.D),.raw (vs 0 7),.raw (vs 0 8)]),(1,.cells 73 [.raw (vs 1 0),.raw (vs 1 1),.rsl 2 co,.raw (vs 1 3),.raw (vs 1 4),.raw (vs 1 5)]),(2,.row TO 3 co (rgF own))] jj=some bb→Ep.look g jj=lookU (stufH vs []) jj (some bb)):=by
 repeat' (first
  | (with_reducible apply Given.mk;intro h;(try simp only [uOf_uF,boOf_bF,mOf_eq,mOf_eq',MR_eta,rgOf_rgF,Bool.not_eq_true',Bool.not_eq_false'] at h);(try exact absurd h (by decide)))
  | ((conv=>whnf);first
    | with_reducible apply Both.mk
    | fail))
 all_goals first
  | ((with_reducible apply Ob.mk);exact ⟨hc0,⟨rfl,rfl,rfl,rfl,rfl⟩,⟨rfl,rfl,RO⟩,trivial⟩)
  | ((with_reducible apply Ob.mk);(try simp only [mOf_eq,mOf_eq',MR_eta,rgOf_rgF]);exact ⟨asks_in RO hc1 (by with_reducible assumption),⟨rfl,rfl,rfl,rfl,rfl⟩,trivial⟩)
  | ((conv=>whnf);refine ⟨?_,same_h rfl⟩;(try simp only [mOf_eq,mOf_eq',MR_eta,rgOf_rgF]);simp only [givenV, *,if_true,if_false,Bool.false_eq_true,Bool.true_and,Bool.false_and,Bool.and_true,Bool.and_false,Bool.true_or,Bool.or_true,Bool.false_or,Bool.or_false,reduceIte];done)
  | ((with_reducible apply Ob.mk);kernel_rfl)
set_option maxRecDepth 100000 in
theorem e_given:EntryO Tryd.prog anyWorld 94 sp_given:=by
 refine .of_FI C_gi_ok (by kernel_rfl) Tryd.func94 (by kernel_rfl) (by kernel_rfl) (fun args ch c v ups h hc vs=> ?_)
 unfold sp_given at h
 split at h
 · rename_i n z fR fH fT fW fD co TO co' fo
   cases h
   obtain ⟨hc0,hc1,hm,⟨rfl,ho,RO⟩,-⟩:=hc
   obtain ⟨⟨R,rfl⟩,⟨H,rfl⟩,⟨Tg,rfl⟩,⟨Wr,rfl⟩,⟨D,rfl⟩⟩:=mOK_ex hm
   obtain ⟨own,rfl⟩:∃ x,fo=rgF x:=⟨_,ho⟩
   exact given_walk ⟨R,H,Tg,Wr,D⟩ TO co own n z vs hc0 hc1 RO
 · cases h
theorem ups_h {b0 b' b:Blk} {rest:List (Nat×Blk)} {vs:Nat→Nat→Value} (e:b'=stufB (vs 0) b):∀ i d,Ep.look ((0,b0)::rest) i=some d→Ep.look ((0,b')::rest) i=lookU (stufH vs [(0,b)]) i (some d):=fun i d h=>by
 subst e
 rcases i with _ | i
 · rfl
 · exact h
theorem ups_5 {b0 b1 b2 b3 b4 b' b b4' c4:Blk} {vs:Nat→Nat→Value} (e:b'=stufB (vs 0) b) (e4:b4'=stufB (vs 4) c4):∀ i d,Ep.look [(0,b0),(1,b1),(2,b2),(3,b3),(4,b4)] i=some d→Ep.look [(0,b'),(1,b1),(2,b2),(3,b3),(4,b4')] i=lookU (stufH vs [(0,b),(4,c4)]) i (some d):=fun i d h=>by
 subst e
 rcases i with _ | _ | _ | _ | _ | i
 · rfl
 · exact h
 · exact h
 · exact h
 · exact congrArg some e4
 · have h':(none:Option Blk)=some d:=h
   cases h'
def loadV (m:MR) (own:RT) (co:Nat) (r:RT) (cm:Nat) (o d s:BitVec 8) (f:BitVec 16):BitVec 64×MR:=
 if m.H s.toNat then
  if (asksV m own co s f (sizeV o)).2 != 0#64 then ((asksV m own co s f (sizeV o)).2,m)
  else if (mayV m (asksV m own co s f (sizeV o)).1 (sizeV o)).2 != 0#64 then ((mayV m (asksV m own co s f (sizeV o)).1 (sizeV o)).2,m)
  else ((readV r cm (asksV m own co s f (sizeV o)).1 (sizeV o)).2,m.set d (readV r cm (asksV m own co s f (sizeV o)).1 (sizeV o)).1 (mayV m (asksV m own co s f (sizeV o)).1 (sizeV o)).1)
 else (101#64,m)
noncomputable abbrev C_ld:Table:=⟨(tabM noData [(85,sp_firewallref02_Size)] [(88,spD sp_read)]).fn,noData.glob,noData.look,oInl [(86,(mkO,sp_asks)),(87,(mkS1,sp_may)),(64,(mkS1,sp_set))] (fun _ _ _ _ _=>Stuck "call"),.sym,0,0,[],fun _ _ _=>none,[]⟩
theorem C_ld_ok:CSound Tryd.prog anyWorld C_ld:=(((CSound.startM (CSound.start.cons e_firewallref02_Size)).consM e_read)).inl' (oInl_sound (.cons e_asks (.cons e_may (.cons e_set .nil))) (InlOK.none _ _)) .sym 0 0 [] []
noncomputable def sp_load:SpW:=fun args ch=>match args,ch with
 | [.one (.ptr 0 0),.agg [.b8 false o,.b8 false d,.b8 false s,.b16 true f,.b32 true i]],[(0,.cells 95 [.junk,.ptr 1 0,.seg 1 11 fR,.seg 1 11 fH,.seg 1 11 fT,.seg 1 512 fW,.seg 1 64 fD,.junk,.junk]),(1,.cells 73 [.junk,.junk,.rsl 2 co,.ptr 3 0,.junk,.junk]),(2,.row TO 3 co' fo),(3,.cells 109 [.rsl 4 cm]),(4,.row TR 3 cm' fr)]=>some (.p ((s.toNat<11)∧(d.toNat<11)∧(OwnW (rgOf fo) co)∧mOK fR fH fT fW fD∧(co=co'∧fo=rgF (rgOf fo)∧RgOK (rgOf fo) co)∧(cm=cm'∧fr=rgF (rgOf fr)∧RgOK (rgOf fr) cm)∧True),.one (.b64 true (loadV (mOf fR fH fT fW fD) (rgOf fo) co (rgOf fr) cm o d s f).1),[(0,.cells 95 (sLs (.ptr 1 0) (loadV (mOf fR fH fT fW fD) (rgOf fo) co (rgOf fr) cm o d s f).2))])
 | _,_=>none
set_option maxRecDepth 100000 in
set_option maxHeartbeats 16000000 in
theorem load_walk (m:MR) (TO:TypeId) (co:Nat) (own:RT) (TR:TypeId) (cm:Nat) (r:RT) (o d s:BitVec 8) (f:BitVec 16) (i:BitVec 32) (vs:Nat→Nat→Value) (hc0:s.toNat<11) (hc1:d.toNat<11) (hc2:OwnW own co) (RO:RgOK own co) (RM:RgOK r cm) :
 FI Tryd.prog C_ld Tryd.f67 5 [.one (.ptr 0 0),.agg [.b8 false o,.b8 false d,.b8 false s,.b16 true f,.b32 true i]] [(0,.cells 95 [.raw (vs 0 0),.ptr 1 0,.seg 1 11 (uF m.R),.seg 1 11 (bF m.H),.seg 1 11 (bF m.T),.seg 1 512 (bF m.W),.seg 1 64 (bF m.D),.raw (vs 0 7),.raw (vs 0 8)]),(1,.cells 73 [.raw (vs 1 0),.raw (vs 1 1),.rsl 2 co,.ptr 3 0,.raw (vs 1 4),.raw (vs 1 5)]),(2,.row TO 3 co (rgF own)),(3,.cells 109 [.rsl 4 cm]),(4,.row TR 3 cm (rgF r))] (fun u g=>u= .one (.b64 true (loadV m own co r cm o d s f).1)∧∀ jj bb,Ep.look [(0,.cells 95 [.raw (vs 0 0),.ptr 1 0,.seg 1 11 (uF m.R),.seg 1 11 (bF m.H),.seg 1 11 (bF m.T),.seg 1 512 (bF m.W),.seg 1 64 (bF m.D),.raw (vs 0 7),.raw (vs 0 8)]),(1,.cells 73 [.raw (vs 1 0),.raw (vs 1 1),.rsl 2 co,.ptr 3 0,.raw (vs 1 4),.raw (vs 1 5)]),(2,.row TO 3 co (rgF own)),(3,.cells 109 [.rsl 4 cm]),(4,.row TR 3 cm (rgF r))] jj=some bb→Ep.look g jj=lookU (stufH vs [(0,.cells 95 (sLs (.ptr 1 0) (loadV m own co r cm o d s f).2))]) jj (some bb)):=by
 repeat' (first
  | (with_reducible apply Given.mk;intro h;(try simp only [uOf_uF,boOf_bF,mOf_eq,mOf_eq',MR_eta,rgOf_rgF,Bool.not_eq_true',Bool.not_eq_false'] at h);(try exact absurd h (by decide)))
  | ((conv=>whnf);first
    | with_reducible apply Both.mk
    | fail))
 all_goals first
  | ((with_reducible apply Ob.mk);exact hc0)
  | ((with_reducible apply Ob.mk);exact ⟨hc0,⟨rfl,rfl,rfl,rfl,rfl⟩,⟨rfl,rfl,RO⟩,trivial⟩)
  | ((with_reducible apply Ob.mk);exact ⟨hc1,⟨rfl,rfl,rfl,rfl,rfl⟩,trivial⟩)
  | ((with_reducible apply Ob.mk);(try simp only [mOf_eq,mOf_eq',MR_eta,rgOf_rgF]);exact ⟨asks_in RO hc2 (by with_reducible assumption),⟨rfl,rfl,rfl,rfl,rfl⟩,trivial⟩)
  | ((with_reducible apply Ob.mk);exact ⟨Nat.le_refl _,rfl,RM⟩)
  | ((conv=>whnf);(try simp only [mOf_eq,mOf_eq',MR_eta,rgOf_rgF]);refine ⟨?_,ups_h ?_⟩<;>simp only [loadV, *,if_true,if_false,Bool.false_eq_true,Bool.true_and,Bool.false_and,Bool.and_true,Bool.and_false,Bool.true_or,Bool.or_true,Bool.false_or,Bool.or_false,reduceIte]<;>rfl)
  | ((with_reducible apply Ob.mk);kernel_rfl)
set_option maxRecDepth 100000 in
theorem e_load:EntryO Tryd.prog anyWorld 67 sp_load:=by
 refine .of_FI C_ld_ok (by kernel_rfl) Tryd.func67 (by kernel_rfl) (by kernel_rfl) (fun args ch c v ups h hc vs=> ?_)
 unfold sp_load at h
 split at h
 · rename_i o d s f i fR fH fT fW fD co TO co' fo cm TR cm' fr
   cases h
   obtain ⟨hc0,hc1,hc2,hm,⟨rfl,ho,RO⟩,⟨rfl,hr,RM⟩,-⟩:=hc
   obtain ⟨⟨R,rfl⟩,⟨H,rfl⟩,⟨Tg,rfl⟩,⟨Wr,rfl⟩,⟨D,rfl⟩⟩:=mOK_ex hm
   obtain ⟨own,rfl⟩:∃ x,fo=rgF x:=⟨_,ho⟩
   obtain ⟨r,rfl⟩:∃ x,fr=rgF x:=⟨_,hr⟩
   exact load_walk ⟨R,H,Tg,Wr,D⟩ TO co own TR cm r o d s f i vs hc0 hc1 hc2 RO RM
 · cases h
def stW (W:Nat→Bool) (a:Nat):Nat→Nat→Bool
 | 0=>W
 | j + 1=>up (stW W a j) (a + j) true
def stD (D:Nat→Bool) (a:Nat):Nat→Nat→Bool
 | 0=>D
 | j + 1=>up (stD D a j) ((a + j) / 8) false
def MR.put (m:MR) (a n:Nat) (t:Bool):MR:=⟨m.R,m.H,m.T,stW m.W a n,up (stD m.D a n) (a / 8) t⟩
def svV (m:MR) (o s:BitVec 8) (i:BitVec 32):BitVec 64:=if isSx o then m.R s.toNat else immV i
def shV (m:MR) (o s:BitVec 8):Bool:=if isSx o then m.H s.toNat else true
def stV (m:MR) (o s:BitVec 8):Bool:=if isSx o then m.T s.toNat else false
theorem sv_1 {m:MR} {o s:BitVec 8} {i:BitVec 32} (h:isSx o=true):svV m o s i=m.R s.toNat∧shV m o s=m.H s.toNat∧stV m o s=m.T s.toNat:=⟨if_pos h,if_pos h,if_pos h⟩
theorem sv_0 {m:MR} {o s:BitVec 8} {i:BitVec 32} (h:isSx o=false):svV m o s i=immV i∧shV m o s=true∧stV m o s=false:=by
 have:¬ (isSx o=true):=by rw [h];exact Bool.false_ne_true
 exact ⟨if_neg this,if_neg this,if_neg this⟩
def stB (t:Bool) (a z:BitVec 64):Bool:=t&&((stackV a).slt 0#64||(z != 8#64||(0#64).slt ((stackV a).srem 8#64)))
noncomputable def storeV (m:MR) (own:RT) (co:Nat) (r:RT) (cm:Nat) (o d s:BitVec 8) (f:BitVec 16) (i:BitVec 32):BitVec 64×MR×RT:=
 if m.H d.toNat&&shV m o s then
  if (asksV m own co d f (sizeV o)).2 != 0#64 then ((asksV m own co d f (sizeV o)).2,m,r)
  else if sheerB (asksV m own co d f (sizeV o)).1 then (71#64,m,r)
  else if stB (stV m o s) (asksV m own co d f (sizeV o)).1 (sizeV o) then (102#64,m,r)
  else ((writeV r cm (asksV m own co d f (sizeV o)).1 (sizeV o) (svV m o s i)).1,(if (0#64).sle (stackV (asksV m own co d f (sizeV o)).1) then m.put (stackV (asksV m own co d f (sizeV o)).1).toNat (sizeV o).toNat (stV m o s) else m),(writeV r cm (asksV m own co d f (sizeV o)).1 (sizeV o) (svV m o s i)).2)
 else (101#64,m,r)
theorem st_s {x n:BitVec 64} {j:Nat} (hx:x.toNat + n.toNat≤512) (hj:j<n.toNat) {W D:Nat→Bool} {a b c e f g h:L}:Blk.cells 95 [a,b,c,e,f,.seg 1 512 (updF (bF (stW W x.toNat j)) (x + BitVec.ofNat 64 j).toNat 0 [.bool true]),.seg 1 64 (updF (bF (stD D x.toNat j)) ((x + BitVec.ofNat 64 j).sdiv 8#64).toNat 0 [.bool false]),g,h] =
 Blk.cells 95 [a,b,c,e,f,.seg 1 512 (bF (stW W x.toNat (j + 1))),.seg 1 64 (bF (stD D x.toNat (j + 1))),g,h]:=by
 rw [upd_b,upd_b,at_n hx (Nat.le_of_lt hj),at_d hx (Nat.le_of_lt hj)];rfl
theorem stack_lt {a:BitVec 64} (h:(0#64).sle (stackV a)=true):(stackV a).toNat<512:=by
 unfold stackV at h ⊢
 split at h
 · exact absurd h (by decide)
 · rename_i g
   rw [if_neg g]
   simp only [Bool.or_eq_true,not_or,Bool.not_eq_true] at g
   have g1:¬ (a<131072#64):=by rw [← BitVec.ult_iff_lt,g.1];decide
   have g2:¬ (131584#64≤a):=by rw [← BitVec.ule_iff_le,g.2];decide
   rw [BitVec.lt_def] at g1
   rw [BitVec.le_def] at g2
   have c1:(131072#64).toNat=131072:=rfl
   have c2:(131584#64).toNat=131584:=rfl
   rw [c1] at g1;rw [c2] at g2
   rw [BitVec.toNat_sub,c1]
   have:=a.isLt
   omega
theorem sk_ix {x:BitVec 64} (h:x.toNat<512):(0≤(x.sdiv 8#64).toInt∧(x.sdiv 8#64).toNat<64)∧(x.sdiv 8#64).toNat=x.toNat / 8:=by
 have h1:=at_d (x:=x) (n:=0#64) (j:=0) (by show x.toNat + 0≤512;omega) (Nat.le_refl _)
 have e:x + BitVec.ofNat 64 0=x:=by simp
 rw [e,Nat.add_zero] at h1
 refine ⟨⟨?_,by omega⟩,h1⟩
 rw [at_i (by omega)];omega
noncomputable abbrev C_st:Table:=⟨(tabM noData [(85,sp_firewallref02_Size),(69,sp_firewallref02_StoreReg),(89,sp_firewallref01_Sign),(90,sp_firewallref10_sheer),(91,sp_firewallref10_stack)] []).fn,noData.glob,noData.look,wInl [(92,sp_write)] (oInl [(86,(mkO,sp_asks))] (fun _ _ _ _ _=>Stuck "call")),.sym,0,0,[],fun _ _ _=>none,[]⟩
theorem C_st_ok:CSound Tryd.prog anyWorld C_st:=((CSound.startM (((((CSound.start.cons e_firewallref10_stack).cons e_firewallref10_sheer).cons e_firewallref01_Sign).cons e_firewallref02_StoreReg).cons e_firewallref02_Size))).inl' (wInl_sound (.cons e_write .nil) (oInl_sound (.cons e_asks .nil) (InlOK.none _ _))) .sym 0 0 [] []
noncomputable def sp_store:SpW:=fun args ch=>match args,ch with
 | [.one (.ptr 0 0),.agg [.b8 false o,.b8 false d,.b8 false s,.b16 true f,.b32 true i]],[(0,.cells 95 [.junk,.ptr 1 0,.seg 1 11 fR,.seg 1 11 fH,.seg 1 11 fT,.seg 1 512 fW,.seg 1 64 fD,.junk,.junk]),(1,.cells 73 [.junk,.junk,.rsl 2 co,.ptr 3 0,.junk,.junk]),(2,.row TO 3 co' fo),(3,.cells 109 [.rsl 4 cm]),(4,.row TR 3 cm' fr)]=>some (.p ((s.toNat<11)∧(d.toNat<11)∧(OwnW (rgOf fo) co)∧mOK fR fH fT fW fD∧(co=co'∧fo=rgF (rgOf fo)∧RgOK (rgOf fo) co)∧(cm=cm'∧fr=rgF (rgOf fr)∧RgOK (rgOf fr) cm)∧True),.one (.b64 true (storeV (mOf fR fH fT fW fD) (rgOf fo) co (rgOf fr) cm o d s f i).1),[(0,.cells 95 (sLs (.ptr 1 0) (storeV (mOf fR fH fT fW fD) (rgOf fo) co (rgOf fr) cm o d s f i).2.1)),(4,.row TR 3 cm (rgF (storeV (mOf fR fH fT fW fD) (rgOf fo) co (rgOf fr) cm o d s f i).2.2))])
 | _,_=>none
set_option maxRecDepth 100000 in
set_option maxHeartbeats 16000000 in
theorem store_walk (m:MR) (TO:TypeId) (co:Nat) (own:RT) (TR:TypeId) (cm:Nat) (r:RT) (o d s:BitVec 8) (f:BitVec 16) (i:BitVec 32) (vs:Nat→Nat→Value) (hc0:s.toNat<11) (hc1:d.toNat<11) (hc2:OwnW own co) (RO:RgOK own co) (RM:RgOK r cm) :
 FI Tryd.prog C_st Tryd.f70 5 [.one (.ptr 0 0),.agg [.b8 false o,.b8 false d,.b8 false s,.b16 true f,.b32 true i]] [(0,.cells 95 [.raw (vs 0 0),.ptr 1 0,.seg 1 11 (uF m.R),.seg 1 11 (bF m.H),.seg 1 11 (bF m.T),.seg 1 512 (bF m.W),.seg 1 64 (bF m.D),.raw (vs 0 7),.raw (vs 0 8)]),(1,.cells 73 [.raw (vs 1 0),.raw (vs 1 1),.rsl 2 co,.ptr 3 0,.raw (vs 1 4),.raw (vs 1 5)]),(2,.row TO 3 co (rgF own)),(3,.cells 109 [.rsl 4 cm]),(4,.row TR 3 cm (rgF r))] (fun u g=>u= .one (.b64 true (storeV m own co r cm o d s f i).1)∧∀ jj bb,Ep.look [(0,.cells 95 [.raw (vs 0 0),.ptr 1 0,.seg 1 11 (uF m.R),.seg 1 11 (bF m.H),.seg 1 11 (bF m.T),.seg 1 512 (bF m.W),.seg 1 64 (bF m.D),.raw (vs 0 7),.raw (vs 0 8)]),(1,.cells 73 [.raw (vs 1 0),.raw (vs 1 1),.rsl 2 co,.ptr 3 0,.raw (vs 1 4),.raw (vs 1 5)]),(2,.row TO 3 co (rgF own)),(3,.cells 109 [.rsl 4 cm]),(4,.row TR 3 cm (rgF r))] jj=some bb→Ep.look g jj=lookU (stufH vs [(0,.cells 95 (sLs (.ptr 1 0) (storeV m own co r cm o d s f i).2.1)),(4,.row TR 3 cm (rgF (storeV m own co r cm o d s f i).2.2))]) jj (some bb)):=by
 repeat' (first
  | (with_reducible apply Given.mk;intro h;(try simp only [uOf_uF,boOf_bF,mOf_eq,mOf_eq',MR_eta,rgOf_rgF,Bool.not_eq_true',Bool.not_eq_false'] at h);(try exact absurd h (by decide)))
  | ((conv=>whnf);first
    | with_reducible apply Both.mk
    | ((have hx:=asks_in RO hc2 (by with_reducible assumption) (ge_1 (by with_reducible assumption)));refine LoopP.mk (Nat) (fun j=>j≤(sizeV o).toNat) ((fun j=>mkS (Tryd.f70).ntmps [(0,.one (.ptr 0 0)),(5,.one (.b64 false (svV m o s i))),(7,.one (.bool (stV m o s))),(8,.one (.b64 true (sizeV o))),(9,.one (.b64 false (asksV m own co d f (sizeV o)).1)),(11,.one (.b64 true (stackV (asksV m own co d f (sizeV o)).1))),(12,.one (.b64 true (stackV (asksV m own co d f (sizeV o)).1 + BitVec.ofNat 64 j)))] [(0,.cells 95 [.raw (vs 0 0),.ptr 1 0,.seg 1 11 (uF m.R),.seg 1 11 (bF m.H),.seg 1 11 (bF m.T),.seg 1 512 (bF (stW m.W (stackV (asksV m own co d f (sizeV o)).1).toNat j)),.seg 1 64 (bF (stD m.D (stackV (asksV m own co d f (sizeV o)).1).toNat j)),.raw (vs 0 7),.raw (vs 0 8)]),(1,.cells 73 [.raw (vs 1 0),.raw (vs 1 1),.rsl 2 co,.ptr 3 0,.raw (vs 1 4),.raw (vs 1 5)]),(2,.row TO 3 co (rgF own)),(3,.cells 109 [.rsl 4 cm]),(4,.row TR 3 cm (rgF r))])) (fun j=>(sizeV o).toNat - j) ⟨0,Nat.zero_le _,⟨?_,?_,?_,?_,?_⟩⟩ ?_;(iterate 2 (focus ((repeat' ((conv=>whnf);first | exact trivial | refine Both.mk (by first | with_reducible rfl | exact iN_succ _ | exact at_0 | exact at_s | exact st_s hx (at_go hx qj (by with_reducible assumption)) | exact congrArg (fun x=>AV.one (L.b64 false x)) (sv_1 (by with_reducible assumption)).1.symm | exact congrArg (fun x=>AV.one (L.bool x)) (sv_1 (i:=i) (by with_reducible assumption)).2.2.symm | exact congrArg (fun x=>AV.one (L.b64 false x)) (sv_0 (by with_reducible assumption)).1.symm | exact congrArg (fun x=>AV.one (L.bool x)) (sv_0 (m:=m) (s:=s) (i:=i) (by with_reducible assumption)).2.2.symm | rfl) ?_));done)));(iterate 3 (focus exact rfl));(rintro j qj))))
 all_goals first
  | ((with_reducible apply Ob.mk);exact hc0)
  | ((with_reducible apply Ob.mk);exact hc1)
  | ((with_reducible apply Ob.mk);exact ⟨hc1,⟨rfl,rfl,rfl,rfl,rfl⟩,⟨rfl,rfl,RO⟩,trivial⟩)
  | ((with_reducible apply Ob.mk);exact ⟨Nat.le_refl _,rfl,RM⟩)
  | ((with_reducible apply Ob.mk);decide)
  | ((have hx:=asks_in RO hc2 (by with_reducible assumption) (ge_1 (by with_reducible assumption)));first
    | ((with_reducible apply Ob.mk);with_reducible exact at_ix hx (at_go hx qj (by with_reducible assumption)))
    | ((with_reducible apply Ob.mk);with_reducible exact at_ix8 hx (at_go hx qj (by with_reducible assumption)))
    | ((with_reducible apply Ob.mk);with_reducible exact (at_ix hx (at_go hx qj (by with_reducible assumption))).2)
    | ((with_reducible apply Ob.mk);with_reducible exact (at_ix8 hx (at_go hx qj (by with_reducible assumption))).2)
    | ((with_reducible apply Ob.mk);with_reducible exact (sk_ix (stack_lt (by with_reducible assumption))).1)
    | ((with_reducible apply Ob.mk);with_reducible exact (sk_ix (stack_lt (by with_reducible assumption))).1.2)
    | ((conv=>whnf);refine ⟨j + 1,at_go hx qj (by with_reducible assumption),(by have:=at_go hx qj (by with_reducible assumption);omega),⟨?_,?_,?_,?_,?_⟩⟩;(iterate 2 (focus ((repeat' ((conv=>whnf);first | exact trivial | refine Both.mk (by first | with_reducible rfl | exact iN_succ _ | exact at_0 | exact at_s | exact st_s hx (at_go hx qj (by with_reducible assumption)) | exact congrArg (fun x=>AV.one (L.b64 false x)) (sv_1 (by with_reducible assumption)).1.symm | exact congrArg (fun x=>AV.one (L.bool x)) (sv_1 (i:=i) (by with_reducible assumption)).2.2.symm | exact congrArg (fun x=>AV.one (L.b64 false x)) (sv_0 (by with_reducible assumption)).1.symm | exact congrArg (fun x=>AV.one (L.bool x)) (sv_0 (m:=m) (s:=s) (i:=i) (by with_reducible assumption)).2.2.symm | rfl) ?_));done)));(iterate 3 (focus exact rfl)))
    | ((have ej:=at_end' hx qj (by with_reducible assumption));(have s8:=(sk_ix (stack_lt (by with_reducible assumption))).2);(conv=>whnf);(try simp only [mOf_eq,mOf_eq',MR_eta,rgOf_rgF]);(have ee:=sv_1 (m:=m) (s:=s) (i:=i) (by with_reducible assumption));(obtain ⟨e1,e2,e3⟩:=ee);refine ⟨?_,ups_5 ?_ ?_⟩;(focus (simp only [storeV,stB,e1,e2,e3, *,if_true,if_false,Bool.false_eq_true,Bool.true_and,Bool.false_and,Bool.and_true,Bool.and_false,Bool.true_or,Bool.or_true,Bool.false_or,Bool.or_false,reduceIte];done));(focus (rw [upd_b,s8,ej];clear ej;simp only [storeV,stB,e1,e2,e3, *,if_true,if_false,Bool.false_eq_true,Bool.true_and,Bool.false_and,Bool.and_true,Bool.and_false,Bool.true_or,Bool.or_true,Bool.false_or,Bool.or_false,reduceIte];rfl));(focus (clear ej;simp only [storeV,stB,e1,e2,e3, *,if_true,if_false,Bool.false_eq_true,Bool.true_and,Bool.false_and,Bool.and_true,Bool.and_false,Bool.true_or,Bool.or_true,Bool.false_or,Bool.or_false,reduceIte];rfl)))
    | ((have ej:=at_end' hx qj (by with_reducible assumption));(have s8:=(sk_ix (stack_lt (by with_reducible assumption))).2);(conv=>whnf);(try simp only [mOf_eq,mOf_eq',MR_eta,rgOf_rgF]);(have ee:=sv_0 (m:=m) (s:=s) (i:=i) (by with_reducible assumption));(obtain ⟨e1,e2,e3⟩:=ee);refine ⟨?_,ups_5 ?_ ?_⟩;(focus (simp only [storeV,stB,e1,e2,e3, *,if_true,if_false,Bool.false_eq_true,Bool.true_and,Bool.false_and,Bool.and_true,Bool.and_false,Bool.true_or,Bool.or_true,Bool.false_or,Bool.or_false,reduceIte];done));(focus (rw [upd_b,s8,ej];clear ej;simp only [storeV,stB,e1,e2,e3, *,if_true,if_false,Bool.false_eq_true,Bool.true_and,Bool.false_and,Bool.and_true,Bool.and_false,Bool.true_or,Bool.or_true,Bool.false_or,Bool.or_false,reduceIte];rfl));(focus (clear ej;simp only [storeV,stB,e1,e2,e3, *,if_true,if_false,Bool.false_eq_true,Bool.true_and,Bool.false_and,Bool.and_true,Bool.and_false,Bool.true_or,Bool.or_true,Bool.false_or,Bool.or_false,reduceIte];rfl))))
  | ((conv=>whnf);(try simp only [mOf_eq,mOf_eq',MR_eta,rgOf_rgF]);(have ee:=sv_1 (m:=m) (s:=s) (i:=i) (by with_reducible assumption));(obtain ⟨e1,e2,e3⟩:=ee);refine ⟨?_,ups_5 ?_ ?_⟩<;>simp only [storeV,stB,e1,e2,e3, *,if_true,if_false,Bool.false_eq_true,Bool.true_and,Bool.false_and,Bool.and_true,Bool.and_false,Bool.true_or,Bool.or_true,Bool.false_or,Bool.or_false,reduceIte]<;>rfl)
  | ((conv=>whnf);(try simp only [mOf_eq,mOf_eq',MR_eta,rgOf_rgF]);(have ee:=sv_0 (m:=m) (s:=s) (i:=i) (by with_reducible assumption));(obtain ⟨e1,e2,e3⟩:=ee);refine ⟨?_,ups_5 ?_ ?_⟩<;>simp only [storeV,stB,e1,e2,e3, *,if_true,if_false,Bool.false_eq_true,Bool.true_and,Bool.false_and,Bool.and_true,Bool.and_false,Bool.true_or,Bool.or_true,Bool.false_or,Bool.or_false,reduceIte]<;>rfl)
  | ((with_reducible apply Ob.mk);kernel_rfl)
set_option maxRecDepth 100000 in
theorem e_store:EntryO Tryd.prog anyWorld 70 sp_store:=by
 refine .of_FI C_st_ok (by kernel_rfl) Tryd.func70 (by kernel_rfl) (by kernel_rfl) (fun args ch c v ups h hc vs=> ?_)
 unfold sp_store at h
 split at h
 · rename_i o d s f i fR fH fT fW fD co TO co' fo cm TR cm' fr
   cases h
   obtain ⟨hc0,hc1,hc2,hm,⟨rfl,ho,RO⟩,⟨rfl,hr,RM⟩,-⟩:=hc
   obtain ⟨⟨R,rfl⟩,⟨H,rfl⟩,⟨Tg,rfl⟩,⟨Wr,rfl⟩,⟨D,rfl⟩⟩:=mOK_ex hm
   obtain ⟨own,rfl⟩:∃ x,fo=rgF x:=⟨_,ho⟩
   obtain ⟨r,rfl⟩:∃ x,fr=rgF x:=⟨_,hr⟩
   exact store_walk ⟨R,H,Tg,Wr,D⟩ TO co own TR cm r o d s f i vs hc0 hc1 hc2 RO RM
 · cases h
abbrev opV (o:BitVec 8):BitVec 8:=BitVec.signExtend 8 (BitVec.setWidth 64 (oc o))
def oneB (m:MR) (o d:BitVec 8):Bool:=m.T d.toNat&& !(opV o==176#8)
def arithV (m:MR) (o d s:BitVec 8) (i:BitVec 32):BitVec 64×MR:=
 if !(valueV m o s i).2.1||(!(opV o==176#8)&& !m.H d.toNat) then (101#64,m)
 else if oneB m o d||(valueV m o s i).2.2 then
  if o % 8#8==7#8 then
   if opV o==176#8||(opV o==0#8&&(oneB m o d != (valueV m o s i).2.2))||(opV o==16#8&&(oneB m o d&& !(valueV m o s i).2.2)) then (0#64,m.set d (rDoW (opV o) (o % 8#8==7#8) (m.R d.toNat) (valueV m o s i).1) true)
   else if opV o==16#8&&oneB m o d then (0#64,m.set d (rDoW (opV o) (o % 8#8==7#8) (m.R d.toNat) (valueV m o s i).1) false)
   else (102#64,m)
  else (102#64,m)
 else (0#64,m.set d (rDoW (opV o) (o % 8#8==7#8) (m.R d.toNat) (valueV m o s i).1) false)
noncomputable abbrev C_ar:Table:=⟨(tabM noData [(71,sp_firewallref02_Code),(83,sp_firewallref05_Do)] []).fn,noData.glob,noData.look,oInl [(73,(mkS1,sp_value)),(64,(mkS1,sp_set))] (fun _ _ _ _ _=>Stuck "call"),.sym,0,0,[64],fun _ _ _=>none,[]⟩
theorem C_ar_ok:CSound Tryd.prog anyWorld C_ar:=((CSound.startM ((CSound.start.cons e_firewallref05_Do).cons e_firewallref02_Code))).inl' (oInl_sound (.cons e_value (.cons e_set .nil)) (InlOK.none _ _)) .sym 0 0 [64] []
def sp_arith:SpW:=fun args ch=>match args,ch with
 | [.one (.ptr 0 0),.agg [.b8 false o,.b8 false d,.b8 false s,.b16 true f,.b32 true i]],[(0,.cells 95 [.junk,.junk,.seg 1 11 fR,.seg 1 11 fH,.seg 1 11 fT,.seg 1 512 fW,.seg 1 64 fD,.junk,.junk])]=>some (.p ((s.toNat<11)∧(d.toNat<11)∧mOK fR fH fT fW fD∧True),.one (.b64 true (arithV (mOf fR fH fT fW fD) o d s i).1),[(0,.cells 95 (sLs .junk (arithV (mOf fR fH fT fW fD) o d s i).2))])
 | _,_=>none
set_option maxRecDepth 100000 in
set_option maxHeartbeats 16000000 in
theorem arith_walk (m:MR) (o d s:BitVec 8) (f:BitVec 16) (i:BitVec 32) (vs:Nat→Nat→Value) (hc0:s.toNat<11) (hc1:d.toNat<11) :
 FI Tryd.prog C_ar Tryd.f63 1 [.one (.ptr 0 0),.agg [.b8 false o,.b8 false d,.b8 false s,.b16 true f,.b32 true i]] [(0,.cells 95 [.raw (vs 0 0),.raw (vs 0 1),.seg 1 11 (uF m.R),.seg 1 11 (bF m.H),.seg 1 11 (bF m.T),.seg 1 512 (bF m.W),.seg 1 64 (bF m.D),.raw (vs 0 7),.raw (vs 0 8)])] (fun u g=>u= .one (.b64 true (arithV m o d s i).1)∧∀ jj bb,Ep.look [(0,.cells 95 [.raw (vs 0 0),.raw (vs 0 1),.seg 1 11 (uF m.R),.seg 1 11 (bF m.H),.seg 1 11 (bF m.T),.seg 1 512 (bF m.W),.seg 1 64 (bF m.D),.raw (vs 0 7),.raw (vs 0 8)])] jj=some bb→Ep.look g jj=lookU (stufH vs [(0,.cells 95 (sLs .junk (arithV m o d s i).2))]) jj (some bb)):=by
 repeat' (first
  | (with_reducible apply Given.mk;intro h;(try simp only [*,if_true,if_false,Bool.false_eq_true,Bool.true_and,Bool.false_and,Bool.and_true,Bool.and_false,Bool.true_or,Bool.or_true,Bool.false_or,Bool.or_false,reduceIte,Bool.not_true,Bool.not_false,Bool.true_beq,Bool.false_beq,uOf_uF,boOf_bF,mOf_eq,mOf_eq',MR_eta,rgOf_rgF,Bool.not_eq_true',Bool.not_eq_false'] at h);(try exact absurd h (by decide)))
  | ((conv=>whnf);first
    | with_reducible apply Both.mk
    | fail))
 all_goals first
  | ((with_reducible apply Ob.mk);exact hc1)
  | ((with_reducible apply Ob.mk);exact ⟨hc0,⟨rfl,rfl,rfl,rfl,rfl⟩,trivial⟩)
  | ((with_reducible apply Ob.mk);exact ⟨hc1,⟨rfl,rfl,rfl,rfl,rfl⟩,trivial⟩)
  | ((with_reducible apply Ob.mk);decide)
  | ((conv=>whnf);(try simp only [mOf_eq,mOf_eq',MR_eta,rgOf_rgF]);refine ⟨?_,ups_h ?_⟩<;>simp only [arithV,oneB, *,if_true,if_false,Bool.false_eq_true,Bool.true_and,Bool.false_and,Bool.and_true,Bool.and_false,Bool.true_or,Bool.or_true,Bool.false_or,Bool.or_false,reduceIte,bne,Bool.not_true,Bool.not_false,beq_self_eq_true,Bool.true_beq,Bool.false_beq]<;>rfl)
  | ((with_reducible apply Ob.mk);kernel_rfl)
set_option maxRecDepth 100000 in
theorem e_arith:EntryO Tryd.prog anyWorld 63 sp_arith:=by
 refine .of_FI C_ar_ok (by kernel_rfl) Tryd.func63 (by kernel_rfl) (by kernel_rfl) (fun args ch c v ups h hc vs=> ?_)
 unfold sp_arith at h
 split at h
 · rename_i o d s f i fR fH fT fW fD
   cases h
   obtain ⟨hc0,hc1,hm,-⟩:=hc
   obtain ⟨⟨R,rfl⟩,⟨H,rfl⟩,⟨Tg,rfl⟩,⟨Wr,rfl⟩,⟨D,rfl⟩⟩:=mOK_ex hm
   exact arith_walk ⟨R,H,Tg,Wr,D⟩ o d s f i vs hc0 hc1
 · cases h
end Go.Proofs.YthkgakelgdncjaaDoor
