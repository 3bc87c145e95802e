/- HardenSame: Run of the document's interpreter: tools, table. Conditions: as typed. -/
import Derived.Test.YthkgakelgdncjaaDoorVn
import Derived.Test.YthkgakelgdncjaaDoorOz
import Derived.Test.YthkgakelgdncjaaDoorUm
namespace Go.Proofs.YthkgakelgdncjaaDoor
open Go.Ep Go.RowKit
set_option linter.unusedVariables false
set_option linter.unusedSimpArgs false
noncomputable abbrev FSrn:List (Nat×Func):=[(36,Tryd.f36)]
theorem fs_rn:FsOK Tryd.prog FSrn:=(FsOK.cons Tryd.func36 (by kernel_rfl) (by kernel_rfl) FsOK.nil)
noncomputable abbrev C_r0:Table:=⟨(tabM noData [] [(11,spS 5 sq_chk)]).fn,noData.glob,noData.look,fun _ _ _ _ _=>Stuck "call",.sym,0,0,[],fun _ _ _=>none,[]⟩
theorem C_r0_ok:CSound Tryd.prog anyWorld C_r0:=((CSound.startM CSound.start).consM e_RefCheck).inl' (InlOK.none _ _) .sym 0 0 [] []
noncomputable abbrev C_rn (nm:Nat) (de:Bool):Table:=⟨C_r0.fn,C_r0.glob,C_r0.look,wInl [(37,sp_step nm de)] (inlN Tryd.prog C_r0 FSrn 2),.sym,0,0,[],C_r0.mkr,[]⟩
theorem C_rn_ok (nm:Nat) (de:Bool):CSound Tryd.prog anyWorld (C_rn nm de):=C_r0_ok.inl' (wInl_sound (.cons (e_step nm de) .nil) (inlN_sound C_r0_ok (by kernel_rfl) fs_rn 2)) .sym 0 0 [] []
structure RK where
 m:MR
 s:WR
 k:Nat
 t:Nat
def m00:MR:=⟨up (up (fun _=>0#64) 1 65536#64) 10 131584#64,up (up (fun _=>false) 1 true) 10 true,up (up (fun _=>false) 1 true) 10 true,fun _=>false,fun _=>false⟩
theorem m0U:updF (updF (fun _=>[PL.b64 false 0#64]) 1 0 [.b64 false 65536#64]) 10 0 [.b64 false 131584#64]=uF m00.R:=by
 rw [show (fun _=>[PL.b64 false 0#64])=uF (fun _=>0#64) from rfl,upd_u,upd_u];rfl
theorem m0B:updF (updF (fun _=>[PL.bool false]) 1 0 [.bool true]) 10 0 [.bool true]=bF m00.H:=by
 rw [show (fun _=>[PL.bool false])=bF (fun _=>false) from rfl,upd_b,upd_b];rfl
theorem sEq {a b c d e f g:L} {p:BitVec 64} {k t:Nat} (h:p=bv k):Blk.cells 95 [a,b,c,d,e,f,g,.b64 true p,.b64 true (BitVec.ofNat 64 t + 1#64)]=Blk.cells 95 [a,b,c,d,e,f,g,.b64 true (bv k),.b64 true (BitVec.ofNat 64 (t + 1))]:=by rw [h,BitVec.ofNat_add]
theorem sEq0 {a b g h:L} {z1 z2:BitVec 64}:Blk.cells 95 [a,b,.seg 1 11 (updF (updF (fun _=>[PL.b64 false 0#64]) 1 0 [.b64 false 65536#64]) 10 0 [.b64 false 131584#64]),.seg 1 11 (updF (updF (fun _=>[PL.bool false]) 1 0 [.bool true]) 10 0 [.bool true]),.seg 1 11 (updF (updF (fun _=>[PL.bool false]) 1 0 [.bool true]) 10 0 [.bool true]),g,h,.b64 true z1,.b64 true z2] =
 Blk.cells 95 [a,b,.seg 1 11 (uF m00.R),.seg 1 11 (bF m00.H),.seg 1 11 (bF m00.T),g,h,.b64 true z1,.b64 true z2]:=by rw [m0U,m0B];rfl
theorem hn_of {x:IT} {n:Nat} {m:BitVec 64} {w:Bool} (G:Good x n m w):n≤8000:=by have:=n192 G;omega
theorem hp_of {x:IT} {n:Nat} {m:BitVec 64} {w:Bool} (G:Good x n m w) {k:Nat} (hk:k<n) (h:hf x k=false):(bv k).toNat<n∧(x (bv k).toNat).d.toNat<11∧(x (bv k).toNat).s.toNat<11:=by
 have h1:=n192 G
 rw [nat_ofNat (show k<9223372036854775808 by omega)]
 exact ⟨hk,(ins_w G hk h).2⟩
def cN {nm:Nat} {de:Bool} (T:Tag nm de) (c:WC):WC:=⟨c.pl,c.co,c.own,c.cm,dmV de c.dm,match de with
 | true=>fun _=>0#64
 | false=>c.X,match nm with
 | 0=>fun _=>⟨#[]⟩
 | _=>c.k0⟩
theorem nrm_c {nm:Nat} {de:Bool} {c:WC} {s:WR} (T:Tag nm de) (N:Nrm nm de c s):cN T c=c:=by
 obtain ⟨pl,co,own,cm,dm,X,k0⟩:=c
 obtain ⟨h0,-,h2⟩:=N
 cases de<;>cases nm<;>simp_all [cN,dmV]
theorem nrm_s {nm:Nat} {de:Bool} {c:WC} {s:WR} (N:Nrm nm de c s):normW nm de s=s:=by
 obtain ⟨r,k1,dk,ds,dn⟩:=s
 obtain ⟨-,h1,h2⟩:=N
 rcases nm with _ | _ | _ | nm<;>cases de<;>simp_all [normW]
def rnB (lf:Bool) (TL:TypeId) (n:Nat) (x:IT) (nm:Nat) (de:Bool) (c:WC) (s:WR):List (Nat×Blk):=(0,lB lf TL n x)::wB nm de 1 c s
noncomputable def rnH {nm:Nat} {de lf:Bool} (T:Tag nm de) (lt:Tag 0 lf) (TL:TypeId) (n cap:Nat) (x:IT) (c:WC) (most:BitVec 64) (y:RK):S:=
 mkS (Tryd.f14).ntmps [(2,.one (.b64 true most)),(6,.one (.ptr ((wB nm de 1 c y.s).length + 7) 0)),(10,.one (.ptr ((wB nm de 1 c y.s).length + 31) 0))] (((wB nm de 1 c y.s).length + 31,sC y.m 1 (.slc 0 0 n cap) (.b64 true (bv y.k)) (.b64 true (BitVec.ofNat 64 y.t)))::((wB nm de 1 c y.s).length + 7,.cells 47 [.b64 false 0#64,.b64 true 0#64])::rnB lf TL n x nm de c y.s)
noncomputable def sNT {nm:Nat} {de:Bool} (T:Tag nm de):WC→IT→Nat→BitVec 64→MR→WR→SX:=stepN nm de
def rnO {nm:Nat} {de:Bool} (T:Tag nm de) (n:Nat) (x:IT) (c:WC) (most:BitVec 64) (Z:BitVec 64×BitVec 64×BitVec 64×WR) (y:RK):Prop:=
 y.s.ok c.cm (dmV de c.dm)∧y.k<n∧hf x y.k=false∧y.t≤most.toNat∧runF (sNT T c x n) (most.toNat - y.t) y.t (bv y.k) y.m y.s=Z
end Go.Proofs.YthkgakelgdncjaaDoor
