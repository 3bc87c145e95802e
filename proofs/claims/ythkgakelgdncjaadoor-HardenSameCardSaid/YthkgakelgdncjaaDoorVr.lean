/- HardenSame: the law's walk, in all worlds. Conditions: as typed. -/
import Derived.Test.YthkgakelgdncjaaDoorVq
namespace Go.Proofs.YthkgakelgdncjaaDoor
open Go.Ep Go.RowKit
set_option linter.unusedVariables false
set_option linter.unusedSimpArgs false
set_option maxRecDepth 100000 in
set_option maxHeartbeats 64000000 in
theorem Same {nm:Nat} {pe de nil:Bool} (hnm:nm=0∨nm=1∨nm=2) (T T2 TD:TypeId) (len cap ns cap2 nd dc:Nat) (ad ad3:Option Addr) (x:IT) (st:Nat→Bool) (bs:ByteArray) (mk0:BitVec 64) (v0:Value) (X:Nat→BitVec 64) (hl:len<9223372036854775808) (hb:bs.size<9223372036854775808) (hnd:nd<9223372036854775808) (hns:ns<9223372036854775808) (hn0:de=false→nd≠0) (hD:de=true→nd=0∧X=fun _=>0#64) (hS:nil=true→ns=0∧st=fun _=>false)
 (hN:(layN (BitVec.signExtend 8 (BitVec.ofNat 64 bs.size))).toNat=nm) (hP:pkOK pe (stP bs (layP (BitVec.signExtend 8 (BitVec.ofNat 64 bs.size))).toNat)) (hW:(de=false→nd≤100)→WR.ok (wrL nm pe (stP bs (layP (BitVec.signExtend 8 (BitVec.ofNat 64 bs.size))).toNat) (stM bs (layP (BitVec.signExtend 8 (BitVec.ofNat 64 bs.size))).toNat) nd) (memN nm pe) nd) (hO:WC.ok (wcL nm pe (stP bs (layP (BitVec.signExtend 8 (BitVec.ofNat 64 bs.size))).toNat) (stM bs (layP (BitVec.signExtend 8 (BitVec.ofNat 64 bs.size))).toNat) nd X)) (ZA ZB:BitVec 64×BitVec 64×BitVec 64×WR) (hA:runF (stepN nm de (wcL nm pe (stP bs (layP (BitVec.signExtend 8 (BitVec.ofNat 64 bs.size))).toNat) (stM bs (layP (BitVec.signExtend 8 (BitVec.ofNat 64 bs.size))).toNat) nd X) x len) (1000#64).toNat 0 0#64 m00 (wrL nm pe (stP bs (layP (BitVec.signExtend 8 (BitVec.ofNat 64 bs.size))).toNat) (stM bs (layP (BitVec.signExtend 8 (BitVec.ofNat 64 bs.size))).toNat) nd)=ZA) (hB:runF (stepN nm de (wcL nm pe (stP bs (layP (BitVec.signExtend 8 (BitVec.ofNat 64 bs.size))).toNat) (stM bs (layP (BitVec.signExtend 8 (BitVec.ofNat 64 bs.size))).toNat) nd X) (out2 x (barB x len st ns) len (lenO (barB x len st ns) len)) (lenO (barB x len st ns) len)) (4000#64).toNat 0 0#64 m00 (wrL nm pe (stP bs (layP (BitVec.signExtend 8 (BitVec.ofNat 64 bs.size))).toNat) (stM bs (layP (BitVec.signExtend 8 (BitVec.ofNat 64 bs.size))).toNat) nd)=ZB)
 (hG:((chk4 x len (BitVec.ofNat 64 (layN (BitVec.signExtend 8 (BitVec.ofNat 64 bs.size))).toNat) false).2 != 0#64)=false→(chk4 x len 4#64 false).2=0#64∧chk4 x len (BitVec.ofNat 64 nm) true=(0#64,0#64)∧chk4 (out2 x (barB x len st ns) len (lenO (barB x len st ns) len)) (lenO (barB x len st ns) len) (BitVec.ofNat 64 nm) true=(0#64,0#64)∧SameR ZA ZB) :
 FI Tryd.prog (C_S nm pe de nil) Tryd.f4 3 (lwA de nil len cap ns cap2 nd dc ad ad3 bs mk0 v0) (lwB de nil T T2 TD len ns nd x st X) (fun r _=>r= .one (.bool true)):=by
 rcases hnm with rfl | rfl | rfl
 all_goals cases pe
 all_goals cases de
 all_goals (try obtain ⟨rfl,rfl⟩:=hD rfl)
 all_goals cases nil
 all_goals (try obtain ⟨rfl,rfl⟩:=hS rfl)
 all_goals simp only [wcL,wrL,pkZ,pkE,ownN,memN,kA,kB] at hA hB hW hO
 all_goals simp only [lwA,lwB,List.cons_append,List.nil_append,List.append_nil]
 all_goals repeat' (first
  | (with_reducible apply Given.mk;intro h;(try simp only [rgOf_rgF,uOf_uF,boOf_bF,inOf_iF,sOf_sF,hA,hB] at h);(try exact absurd h (by decide)))
  | ((conv=>whnf);with_reducible apply Both.mk))
 all_goals first
  | ((with_reducible apply Ob.mk);first
    | with_reducible exact hl
    | with_reducible exact hb
    | with_reducible exact hnd
    | with_reducible exact lay_lt _
    | ((show Region.tailB _ _=true);kernel_rfl)
    | ((show Region.lexB _ _=true);kernel_rfl)
    | ((show Region.preF _ _=true);kernel_rfl)
    | ((show innerB _ _=true);kernel_rfl)
    | exact ⟨Nat.le_refl _,(by have:=le_64 hl (by with_reducible assumption);omega),.inr rfl⟩
    | exact ⟨by decide,.inl rfl⟩
    | exact ⟨rfl,rfl,(hG (by with_reducible assumption)).1,ad,cap2,rfl⟩
    | exact ⟨rfl,rfl,(hG (by with_reducible assumption)).1,rfl,rfl,hns⟩
    | exact ⟨lay_p _,hb⟩
    | exact ⟨lay_p _,hb,rfl,rfl⟩
    | exact ⟨hN,rfl,sig8 bs,rfl,rfl,hP,hn0 rfl,le_100 hnd (by with_reducible assumption),rfl,rfl⟩
    | exact ⟨hN,rfl,sig8 bs,rfl,rfl,hP,ad3,dc,rfl⟩
    | exact ⟨⟨rfl,(hG (by with_reducible assumption)).2.1,by decide⟩,(by first | rfl | (rw [← mF2_eq];rfl)),hW (fun _=>le_100 hnd (by with_reducible assumption)),hO⟩
    | exact ⟨⟨rfl,(hG (by with_reducible assumption)).2.1,by decide⟩,(by first | rfl | (rw [← mF2_eq];rfl)),hW (fun h=>by cases h),hO⟩
    | exact ⟨⟨rfl,(hG (by with_reducible assumption)).2.2.1,by decide⟩,(by first | rfl | (rw [← mF2_eq];rfl)),hW (fun _=>le_100 hnd (by with_reducible assumption)),hO⟩
    | exact ⟨⟨rfl,(hG (by with_reducible assumption)).2.2.1,by decide⟩,(by first | rfl | (rw [← mF2_eq];rfl)),hW (fun h=>by cases h),hO⟩
    | decide)
  | ((with_reducible apply Ob.mk);exact rfl)
  | ((conv=>whnf);exact rfl)
  | ((conv=>whnf);exact absurd (((hG (by with_reducible assumption)).2.2.2 (by with_reducible assumption)).1.symm.trans h) (by decide))
  | ((conv=>whnf);exact absurd (((hG (by with_reducible assumption)).2.2.2 (by with_reducible assumption)).2.1.symm.trans h) (by decide))
  | ((conv=>whnf);exact absurd (((hG (by with_reducible assumption)).2.2.2 (by with_reducible assumption)).2.2.symm.trans h) (by decide))
  | ((conv=>whnf);skip)
end Go.Proofs.YthkgakelgdncjaaDoor
