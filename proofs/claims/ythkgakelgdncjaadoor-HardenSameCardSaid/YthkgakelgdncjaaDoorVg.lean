/- HardenSame: S.call of the document's interpreter: tools, tables. Conditions: as typed. -/
import Derived.Test.YthkgakelgdncjaaDoorVz
import Derived.Test.YthkgakelgdncjaaDoorMc
namespace Go.Proofs.YthkgakelgdncjaaDoor
open Go.Ep Go.RowKit
set_option linter.unusedVariables false
set_option linter.unusedSimpArgs false
theorem ex_ifv {α β:Sort _} {p:Bool} {A B:α→β→Prop} (h1:p=true→∃ a,∀ v,A a v) (h2:p=false→∃ a,∀ v,B a v):∃ a,∀ v,Both (Given (p=true) (A a v)) (Given (p=false) (B a v)):=by
 cases p with
 | true=>obtain ⟨a,h⟩:=h1 rfl;exact ⟨a,fun v=>⟨⟨fun _=>h v⟩,⟨fun e=>by cases e⟩⟩⟩
 | false=>obtain ⟨a,h⟩:=h2 rfl;exact ⟨a,fun v=>⟨⟨fun e=>by cases e⟩,⟨fun _=>h v⟩⟩⟩
theorem ex_obv {α β:Sort _} {p:Prop} {A:α→β→Prop} (h:p) (h2:∃ a,∀ v,A a v):∃ a,∀ v,Both (Ob p) (A a v):=by
 obtain ⟨a,k⟩:=h2;exact ⟨a,fun v=>⟨⟨h⟩,k v⟩⟩
theorem ex_lpv {α β:Sort _} {A B:α→β→Prop} (f:∀ a v,A a v→B a v) (h:∃ a,∀ v,A a v):∃ a,∀ v,B a v:=by
 obtain ⟨a,k⟩:=h;exact ⟨a,fun v=>f a v (k v)⟩
inductive Mark (k:Nat):Prop
 | mk
theorem ex_mk {α β:Type} (n:Nat) {nm:Nat} {body:S→(Ex→S→Prop)→Prop} {s:β→S} {Q:α→β→Ex→S→Prop} (sh:β→Nat→S) (start:∀ v,Le nm (s v) (sh v 0))
 (mid:∀ k,k<n→Mark k→∀ v a,body (sh v k) (fun e z=>match e with
   | .normal=>∃ k',k'≤n∧n - k'<n - k∧Le nm z (sh v k')
   | .ret=>Q a v .ret z
   | .exit m=>Q a v (.exit m) z))
 (fin:∃ a,∀ v,body (sh v n) (fun e z=>match e with
   | .normal=>∃ k',k'≤n∧n - k'<n - n∧Le nm z (sh v k')
   | .ret=>Q a v .ret z
   | .exit m=>Q a v (.exit m) z)):∃ a,∀ v,LoopP nm body (s v) (Q a v):=by
 obtain ⟨a,h⟩:=fin
 refine ⟨a,fun v=> .mk Nat (fun k=>k≤n) (sh v) (fun k=>n - k) ⟨0,Nat.zero_le _,start v⟩ (fun k hk=> ?_)⟩
 rcases Nat.lt_or_eq_of_le hk with h1 | rfl
 · exact mid k h1 .mk v a
 · exact h v
theorem nx_of {n k:Nat} {P:Nat→Prop} (M:Mark k) (h1:k + 1≤n) (h2:n - (k + 1)<n - k) (h:P (k + 1)):∃ k',k'≤n∧n - k'<n - k∧P k':=⟨k + 1,h1,h2,h⟩
def clrU (R:Nat→BitVec 64):Nat→Nat→BitVec 64
 | 0=>R
 | k + 1=>up (clrU R k) (k + 1) 0#64
def clrB (H:Nat→Bool):Nat→Nat→Bool
 | 0=>H
 | k + 1=>up (clrB H k) (k + 1) false
def yV (x:BitVec 64) (j k:Nat):BitVec 64:=match Nat.blt j k with
 | true=>x
 | false=>0#64
def aV (R:Nat→BitVec 64) (H:Nat→Bool) (j:Nat):BitVec 64:=match H j with
 | true=>R j
 | false=>0#64
theorem ax_t {R:Nat→BitVec 64} {H:Nat→Bool} {j:Nat} {x:BitVec 64} (e:x=aV R H j) (h:H j=true):R j=x:=by rw [e];unfold aV;rw [h]
theorem ax_f {R:Nat→BitVec 64} {H:Nat→Bool} {j:Nat} {x:BitVec 64} (e:x=aV R H j) (h:H j=false):0#64=x:=by rw [e];unfold aV;rw [h]
theorem blk_a {a0 a1 a2 a3 a4 b0 b1 b2 b3 b4:BitVec 64} (h0:a0=b0) (h1:a1=b1) (h2:a2=b2) (h3:a3=b3) (h4:a4=b4) :
 Blk.cells 145 [.b64 false a0,.b64 false a1,.b64 false a2,.b64 false a3,.b64 false a4]=Blk.cells 145 [.b64 false b0,.b64 false b1,.b64 false b2,.b64 false b3,.b64 false b4]:=by subst h0 h1 h2 h3 h4;rfl
structure SA (cm dm:Nat) where
 e:BitVec 64
 m:MR
 s:WR
 ok:s.ok cm dm
theorem leaf_s {cm dm:Nat} {β:Type} {u:β→AV} {bl g:β→List (Nat×Blk)} {ups:SA cm dm→β→List (Nat×Blk)} {e:BitVec 64} {R:Nat→BitVec 64} {H T W D:Nat→Bool} {r:RT} {k1:Nat→ByteArray} {dk ds dn:Nat} (h1:∀ v,u v= .one (.b64 true e))
 (h2:∀ ok v,g v=updL (ups ⟨e,⟨R,H,T,W,D⟩,⟨r,k1,dk,ds,dn⟩,ok⟩ v) (bl v)) (ok:WR.ok ⟨r,k1,dk,ds,dn⟩ cm dm) :
 ∃ a:SA cm dm,∀ v,u v= .one (.b64 true a.e)∧∀ i d,Ep.look (bl v) i=some d→Ep.look (g v) i=lookU (ups a v) i (some d):=
 ⟨⟨e,⟨R,H,T,W,D⟩,⟨r,k1,dk,ds,dn⟩,ok⟩,fun v=>⟨h1 v,upsL (h2 ok v)⟩⟩
theorem ix_h1 {a:BitVec 64} (h:a.ult 9437184#64=false) (g:(9437184#64 + 1#64).ule a=false):0≤(a - 9437184#64).toInt∧(a - 9437184#64).toNat<1:=by
 simp only [BitVec.ult,BitVec.ule,decide_eq_false_iff_not] at h g
 simp at h g
 have e:(a - 9437184#64).toNat=a.toNat - 9437184:=by rw [BitVec.toNat_sub];simp;omega
 exact ⟨by rw [BitVec.toInt_eq_toNat_cond,if_pos (by rw [e];omega)];omega,by rw [e];omega⟩
theorem ix_h2 {a:BitVec 64} (h:a.ult 9437184#64=false) (g:(9437184#64 + 2#64).ule a=false):0≤(a - 9437184#64).toInt∧(a - 9437184#64).toNat<2:=by
 simp only [BitVec.ult,BitVec.ule,decide_eq_false_iff_not] at h g
 simp at h g
 have e:(a - 9437184#64).toNat=a.toNat - 9437184:=by rw [BitVec.toNat_sub];simp;omega
 exact ⟨by rw [BitVec.toInt_eq_toNat_cond,if_pos (by rw [e];omega)];omega,by rw [e];omega⟩
theorem id_cases (id:BitVec 64):id=1#64∨id=2#64∨id=3#64∨id=7#64∨((1#64).sle (argsV id)=false∧(id==7#64)=false∧(id==1#64)=false∧(id==2#64)=false):=by
 by_cases h1:id=1#64
 · exact .inl h1
 by_cases h2:id=2#64
 · exact .inr (.inl h2)
 by_cases h3:id=3#64
 · exact .inr (.inr (.inl h3))
 by_cases h7:id=7#64
 · exact .inr (.inr (.inr (.inl h7)))
 refine .inr (.inr (.inr (.inr ⟨?_,by simpa using h7,by simpa using h1,by simpa using h2⟩)))
 unfold argsV
 simp [h1,h2,h3,h7]
def WC.ok (c:WC):Prop:=RgOK c.own c.co∧OwnW c.own c.co
def sC (m:MR) (w:Nat) (z0 z7 z8:L):Blk:= .cells 95 [z0,.ptr w 0,.seg 1 11 (uF m.R),.seg 1 11 (bF m.H),.seg 1 11 (bF m.T),.seg 1 512 (bF m.W),.seg 1 64 (bF m.D),z7,z8]
noncomputable abbrev C_sc (nm:Nat) (de:Bool):Table:=⟨(tabM noData [(93,sp_firewallref09_Args)] []).fn,noData.glob,noData.look,oInl [(94,(mkO,sp_given)),(64,(mkS1,sp_set))] (wInl [(95,sp_wcall nm de)] (fun _ _ _ _ _=>Stuck "call")),.sym,0,0,[95],fun _ _ _=>none,[]⟩
theorem C_sc_ok (nm:Nat) (de:Bool):CSound Tryd.prog anyWorld (C_sc nm de):=(CSound.startM (CSound.start.cons e_firewallref09_Args)).inl' (oInl_sound (.cons e_given (.cons e_set .nil)) (wInl_sound (.cons (e_wcall nm de) .nil) (InlOK.none _ _))) .sym 0 0 [95] []
def SCP (nm:Nat) (de:Bool) (c:WC) (m:MR) (s:WR) (id e:BitVec 64) (m':MR) (s':WR) (vs:Nat→Nat→Value):Prop:=FI Tryd.prog (C_sc nm de) Tryd.f72 ((wB nm de 1 c s).length + 1) [.one (.ptr 0 0),.one (.b64 true id)] ((0,sC m 1 (.raw (vs 0 0)) (.raw (vs 0 7)) (.raw (vs 0 8)))::wB nm de 1 c s) (fun u g=>u= .one (.b64 true e)∧∀ jj bb,Ep.look ((0,sC m 1 (.raw (vs 0 0)) (.raw (vs 0 7)) (.raw (vs 0 8)))::wB nm de 1 c s) jj=some bb→Ep.look g jj=lookU (stufH vs ((0,.cells 95 (sLs (.ptr 1 0) m'))::wU nm de 1 c s')) jj (some bb))
noncomputable def scH (nm:Nat) (de:Bool) (T:Tag nm de) (id:BitVec 64) (x0 x1 x2 x3 x4:BitVec 64) (R:Nat→BitVec 64) (H T W D:Nat→Bool) (c:WC) (s:WR) (vs:Nat→Nat→Value) (k:Nat):S:=
 mkS (Tryd.f72).ntmps [(0,.one (.ptr 0 0)),(1,.one (.b64 true id)),(8,.one (.ptr ((wB nm de 1 c s).length + 9) 0)),(9,iN k)] (((wB nm de 1 c s).length + 9,.cells 145 [.b64 false (yV x0 0 k),.b64 false (yV x1 1 k),.b64 false (yV x2 2 k),.b64 false (yV x3 3 k),.b64 false (yV x4 4 k)])::(0,sC ⟨clrU R k,clrB H k,clrB T k,W,D⟩ 1 (.raw (vs 0 0)) (.raw (vs 0 7)) (.raw (vs 0 8)))::wB nm de 1 c s)
end Go.Proofs.YthkgakelgdncjaaDoor
