/- HardenSame: Step of the document's interpreter: tools, table. Conditions: as typed. -/
import Derived.Test.YthkgakelgdncjaaDoorVl
import Derived.Test.YthkgakelgdncjaaDoorUa
namespace Go.Proofs.YthkgakelgdncjaaDoor
open Go.Ep Go.RowKit
set_option linter.unusedVariables false
set_option linter.unusedSimpArgs false
structure SX where
 d:Bool
 e:BitVec 64
 pc:BitVec 64
 m:MR
 s:WR
abbrev codeW (o:BitVec 8):BitVec 64:=(oc o).setWidth 64
abbrev mapV (i:BitVec 32):BitVec 64:=9437184#64 + BitVec.signExtend 64 i
abbrev holdB (m:MR) (i:IN):Bool:=rHolds (BitVec.signExtend 8 (codeW i.o)) (i.o % 8#8==5#8) (m.R i.d.toNat) (valueV m i.o i.s i.i).1
noncomputable def stepV (nm:Nat) (de:Bool) (c:WC) (x:IT) (n:Nat) (pc:BitVec 64) (m:MR) (s:WR):SX:=
 bif isA (x pc.toNat).o then ⟨false,(arithV m (x pc.toNat).o (x pc.toNat).d (x pc.toNat).s (x pc.toNat).i).1,pc + 1#64,(arithV m (x pc.toNat).o (x pc.toNat).d (x pc.toNat).s (x pc.toNat).i).2,s⟩
 else bif (x pc.toNat).o==24#8 then (bif (x pc.toNat).s==1#8 then ⟨false,0#64,pc + 1#64 + 1#64,(m.set (x pc.toNat).d (constV x n pc) false).set (x pc.toNat).d (mapV (x pc.toNat).i) true,s⟩
  else ⟨false,0#64,pc + 1#64 + 1#64,m.set (x pc.toNat).d (constV x n pc) false,s⟩)
 else bif isLx (x pc.toNat).o then ⟨false,(loadV m c.own c.co s.r c.cm (x pc.toNat).o (x pc.toNat).d (x pc.toNat).s (x pc.toNat).f).1,pc + 1#64,(loadV m c.own c.co s.r c.cm (x pc.toNat).o (x pc.toNat).d (x pc.toNat).s (x pc.toNat).f).2,s⟩
 else bif isSt (x pc.toNat).o||isSx (x pc.toNat).o then ⟨false,(storeV m c.own c.co s.r c.cm (x pc.toNat).o (x pc.toNat).d (x pc.toNat).s (x pc.toNat).f (x pc.toNat).i).1,pc + 1#64,(storeV m c.own c.co s.r c.cm (x pc.toNat).o (x pc.toNat).d (x pc.toNat).s (x pc.toNat).f (x pc.toNat).i).2.1,{ s with r:=(storeV m c.own c.co s.r c.cm (x pc.toNat).o (x pc.toNat).d (x pc.toNat).s (x pc.toNat).f (x pc.toNat).i).2.2 }⟩
 else bif (x pc.toNat).o==194#8 then ⟨false,0#64,pc + 1#64,m,s⟩
 else bif codeW (x pc.toNat).o==128#64 then ⟨false,(scallR nm de c m s (BitVec.signExtend 64 (x pc.toNat).i)).e,pc + 1#64,(scallR nm de c m s (BitVec.signExtend 64 (x pc.toNat).i)).m,(scallR nm de c m s (BitVec.signExtend 64 (x pc.toNat).i)).s⟩
 else bif endB (x pc.toNat).o then (bif m.H 0 then (bif m.T 0 then ⟨true,102#64,pc + 1#64,m,s⟩ else ⟨true,0#64,pc + 1#64,m,s⟩) else ⟨true,101#64,pc + 1#64,m,s⟩)
 else bif alwB (x pc.toNat).o then ⟨false,0#64,pc + 1#64 + BitVec.signExtend 64 (x pc.toNat).f,m,s⟩
 else bif (valueV m (x pc.toNat).o (x pc.toNat).s (x pc.toNat).i).2.1&&m.H (x pc.toNat).d.toNat then
  (bif holdB m (x pc.toNat) then ⟨false,0#64,pc + 1#64 + BitVec.signExtend 64 (x pc.toNat).f,m,s⟩ else ⟨false,0#64,pc + 1#64,m,s⟩)
 else ⟨false,101#64,pc + 1#64,m,s⟩
def mkC:Mask:=fun T q=>match Nat.beq T 95 with
 | true=>inNs q [0,7,8]
 | false=>false
noncomputable abbrev C_sx (nm:Nat) (de:Bool):Table:=⟨(tabM noData [(62,sp_firewallref02_Arith),(66,sp_firewallref02_Load),(68,sp_firewallref02_Store),(69,sp_firewallref02_StoreReg),(71,sp_firewallref02_Code),(54,sp_firewallref04_Ends),(55,sp_firewallref04_Always),(74,sp_firewallref06_Holds)] [(65,spS 5 sq_const)]).fn,noData.glob,noData.look,oInl [(63,(mkS1,sp_arith)),(67,(mkL,sp_load)),(70,(mkL,sp_store)),(72,(mkC,sp_scall nm de)),(64,(mkS1,sp_set)),(73,(mkS1,sp_value))] (fun _ _ _ _ _=>Stuck "call"),.sym,0,0,[63,67,70,72,64],fun _ _ _=>none,[]⟩
theorem C_sx_ok (nm:Nat) (de:Bool):CSound Tryd.prog anyWorld (C_sx nm de):=((CSound.startM ((((((((CSound.start.cons e_firewallref06_Holds).cons e_firewallref04_Always).cons e_firewallref04_Ends).cons e_firewallref02_Code).cons e_firewallref02_StoreReg).cons e_firewallref02_Store).cons e_firewallref02_Load).cons e_firewallref02_Arith)).consM e_const).inl' (oInl_sound (.cons e_arith (.cons e_load (.cons e_store (.cons (e_scall nm de) (.cons e_set (.cons e_value .nil)))))) (InlOK.none _ _)) .sym 0 0 [63,67,70,72,64] []
def lB (lf:Bool) (TL:TypeId) (n:Nat) (x:IT):Blk:=match lf with
 | false=> .ro TL [.seg 5 n (inF x)]
 | true=> .row TL 5 n (inF x)
def exL (b:Blk):Option (Bool×TypeId×Nat×(Nat→List PL)):=match b with
 | .ro T [.seg 5 n f]=>some (false,T,n,f)
 | .row T 5 n f=>some (true,T,n,f)
 | _=>none
def skB (lf:Bool) (TL:TypeId) (n cap:Nat) (x:IT) (m:MR) (pc st:BitVec 64) (nm:Nat) (de:Bool) (c:WC) (s:WR):List (Nat×Blk):=(0,sC m 2 (.slc 1 0 n cap) (.b64 true pc) (.b64 true st))::(1,lB lf TL n x)::wB nm de 2 c s
end Go.Proofs.YthkgakelgdncjaaDoor
