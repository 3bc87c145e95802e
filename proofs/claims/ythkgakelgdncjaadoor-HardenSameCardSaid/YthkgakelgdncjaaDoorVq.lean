/- HardenSame: the law's walk: tools, table. Conditions: as typed. -/
import Derived.Test.YthkgakelgdncjaaDoorVp
import Derived.Test.YthkgakelgdncjaaDoorUn
import Derived.Test.YthkgakelgdncjaaDoorUp
import Derived.Test.YthkgakelgdncjaaDoorUu
import Derived.Test.YthkgakelgdncjaaDoorHy
namespace Go.Proofs.YthkgakelgdncjaaDoor
open Go.Ep Go.RowKit
set_option linter.unusedVariables false
set_option linter.unusedSimpArgs false
theorem okN_G {P:Program} {G:World→Prop} {f:FuncId} {sp:SpN} (e:EntryN P anyWorld f sp):EntryN P G f sp:=
 ⟨e.fn,fun args ch c v fr h1 h2 q1 q2 q3 b w0 ρ us w _=>e.calls args ch c v fr h1 h2 q1 q2 q3 b w0 ρ us w trivial⟩
theorem okW_G {P:Program} {G:World→Prop} {f:FuncId} {sp:SpW} (e:EntryW P anyWorld f sp):EntryW P G f sp:=
 ⟨e.fn,fun args ch c v ups h1 h2 h3 h4 h5 h6 b w0 ρ us w _=>e.calls args ch c v ups h1 h2 h3 h4 h5 h6 b w0 ρ us w trivial⟩
noncomputable def sp_har (nil:Bool):SpN:=match nil with
 | true=>sp_har1
 | false=>sp_har2
theorem e_har (nil:Bool):EntryN Tryd.prog Gbar 7 (sp_har nil):=match nil with
 | true=>e_har1
 | false=>e_har2
def sp_sta (de:Bool):SpN:=match de with
 | true=>sp_sta1
 | false=>sp_sta0
theorem e_sta (de:Bool):EntryN Tryd.prog anyWorld 13 (sp_sta de):=match de with
 | true=>e_sta1
 | false=>e_sta0
noncomputable abbrev C_S (nm:Nat) (pe de nil:Bool):Table:=⟨(tabM Dbar [(6,sp_fen)] [(11,spS 5 sq_chk)]).fn,Dbar.glob,Dbar.look,nInl [(10,sp_lay),(7,sp_har nil),(13,sp_sta de),(12,sp_newv nm pe de)] (wInl [(14,sp_run nm de)] (fun _ _ _ _ _=>Stuck "call")),.sym,0,0,[13,12],fun _ _ _=>none,[]⟩
theorem C_S_ok (nm:Nat) (pe de nil:Bool) (hn:nm<3):CSound Tryd.prog Gbar (C_S nm pe de nil):=(((CSound.nil Dbar_ok).cons e_fen).startM.consM (okM_G e_RefCheck)).inl' (nInl_sound (.cons (okN_G e_lay) (.cons (e_har nil) (.cons (okN_G (e_sta de)) (.cons (okN_G (e_newv nm pe de hn)) .nil)))) (wInl_sound (.cons (okW_G (e_run nm de)) .nil) (InlOK.none _ _))) .sym 0 0 [13,12] []
theorem alone_m {x:IT} {n:Nat} {p:BitVec 64} {a b:Nat} (hab:a≤b) (hb:b≤8000) (h:aloneE x n p (bv a) false=0#64):aloneE x n p (bv b) false=0#64:=by
 have key:∀ v:BitVec 64,(bv a).sle v=false→(bv b).sle v=false:=fun v hv=>by
  rw [BitVec.sle_eq_decide,decide_eq_false_iff_not,toInt_ofNat (by omega)] at hv ⊢
  omega
 cases hs:(bv a).sle (BitVec.signExtend 64 (x p.toNat).i) with
 | false=>
   unfold aloneE at h ⊢
   rw [hs] at h
   rw [key _ hs]
   exact h
 | true=>
   unfold aloneE at h ⊢
   rw [hs] at h
   cases e24:((x p.toNat).o==24#8) with
   | false=>simp only [e24,Bool.false_eq_true,if_false] at h ⊢;exact h
   | true=>
     cases es:((x p.toNat).s==1#8) with
     | false=>simp only [e24,es,Bool.false_and,if_true,Bool.false_eq_true,if_false] at h ⊢;exact h
     | true=>
       simp only [e24,es,Bool.true_and,Bool.true_or,Bool.or_true,if_true] at h ⊢
       split at h
       · rename_i h1;rw [if_pos h1];exact h
       · rename_i h1
         rw [if_neg h1]
         split at h
         · rename_i h2;rw [if_pos h2];exact h
         · rename_i h2
           rw [if_neg h2]
           split at h
           · rename_i h3;rw [if_pos h3];exact h
           · exact absurd h (by decide)
theorem chk_b {x:IT} {n a b:Nat} (w:Bool) (hab:a≤b) (hb:b≤8000) (h:(chk4 x n (bv a) false).2=0#64):chk4 x n (bv b) w=(0#64,0#64):=by
 unfold chk4 at h ⊢
 split at h
 · exact absurd h (by decide)
 · rename_i hn
   have hm:¬ (n=0∨mostN w<n):=by
    have:mostN false≤mostN w:=by cases w<;>decide
    omega
   rw [if_neg hm]
   split at h
   · rename_i k e
     have:=(fstN_inv e).2.1
     unfold badA at this
     rw [show aloneE x n (bv k) (bv a) false=0#64 from h] at this
     simp at this
   · rename_i e
     have e:=fstN_none_inv e
     have e':fstN (badA x n (bv b) w) n=none:=fstN_none fun k hk=>by
      have:=e k hk
      unfold badA at this ⊢
      cases hh:hf x k with
      | true=>rfl
      | false=>
        rw [hh] at this
        have h0:aloneE x n (bv k) (bv a) false=0#64:=by simpa using this
        have h1:=alone_m hab hb h0
        have h2:aloneE x n (bv k) (bv b) w=0#64:=by
         cases w with
         | false=>exact h1
         | true=>rw [alone_inner x n (bv k) (bv b) (by rw [h1];decide)];exact h1
        rw [h2];rfl
     rw [e']
     dsimp only
     split at h
     · rename_i k e2
       have:=(fstN_inv e2).2.1
       unfold badW at this
       rw [show wayE x n (bv k)=0#64 from h] at this
       simp at this
     · rename_i e2
       split at h
       · exact absurd (show (42#64)=0#64 from h) (by decide)
       · rename_i e3;rfl
def SameR (ZA ZB:BitVec 64×BitVec 64×BitVec 64×WR):Prop:=(ZA.2.2.1==100#64)=false→(ZA.2.2.1==ZB.2.2.1)=true∧(ZA.1==ZB.1)=true∧ZA.2.1.sle ZB.2.1=true
theorem same_run {x:IT} {n ns:Nat} {st:Nat→Bool} {m:BitVec 64} (G:Good x n m false) (nm:Nat) (de:Bool) (c:WC) (s:WR) :
 SameR (runF (stepN nm de c x n) (1000#64).toNat 0 0#64 m00 s) (runF (stepN nm de c (out2 x (barB x n st ns) n (lenO (barB x n st ns) n)) (lenO (barB x n st ns) n)) (4000#64).toNat 0 0#64 m00 s):=fun h=>by
 have h0:=run_rel (st:=st) (ns:=ns) G nm de c (1000#64).toNat (4000#64).toNat 0 0 0 m00 s s rfl G.pos rfl (by decide) (Nat.le_refl _) (fun e=>absurd (h.symm.trans (beq_iff_eq.2 e)) (by decide))
 obtain ⟨h1,h2,u1,u2,h3,h4,h5,h6⟩:=h0
 refine ⟨?_,?_,?_⟩
 · rw [beq_iff_eq];exact h1.symm
 · rw [beq_iff_eq];exact h2.symm
 · have e4:(runF (stepN nm de c (out2 x (barB x n st ns) n (lenO (barB x n st ns) n)) (lenO (barB x n st ns) n)) (4000#64).toNat 0 0#64 m00 s).2.1=BitVec.ofNat 64 u2:=h4
   have e3:(runF (stepN nm de c x n) (1000#64).toNat 0 0#64 m00 s).2.1=BitVec.ofNat 64 u1:=h3
   have h6:u2≤0 + 4000:=h6
   rw [e3,e4,sle_nat (by omega) (by omega)]
   exact decide_eq_true h5
theorem inOf_iF (x:IT):inOf (inF x)=x:=rfl
theorem sOf_sF (k:Nat→ByteArray):sOf (sF k)=k:=rfl
theorem sig8 (bs:ByteArray):layP (BitVec.signExtend 8 (BitVec.ofNat 64 bs.size))=BitVec.ofNat 64 (stP bs (layP (BitVec.signExtend 8 (BitVec.ofNat 64 bs.size))).toNat).size:=by
 rw [stP_size];exact BitVec.eq_of_toNat_eq (by rw [BitVec.toNat_ofNat,Nat.mod_eq_of_lt (BitVec.isLt _)])
theorem le_64 {n:Nat} (h1:n<9223372036854775808) (h:(64#64).slt (BitVec.ofNat 64 n)=false):n≤64:=by
 have:=(slt_nat (a:=64) (b:=n) (by omega) (by omega)).symm.trans h
 have:=of_decide_eq_false this;omega
theorem le_100 {n:Nat} (h1:n<9223372036854775808) (h:(100#64).slt (BitVec.ofNat 64 n)=false):n≤100:=by
 have:=(slt_nat (a:=100) (b:=n) (by omega) (by omega)).symm.trans h
 have:=of_decide_eq_false this;omega
theorem lay_lt (v:BitVec 8):(layN v).toNat<9223372036854775808:=Nat.lt_of_le_of_lt (lay_n v).2 (by decide)
def ownN (nm:Nat) (pe:Bool):Nat:=match nm,pe with
 | 0,false=>4
 | 0,true=>3
 | 1,false=>5
 | 1,true=>4
 | 2,false=>6
 | 2,true=>5
 | _,_=>0
def pkE (pe:Bool) (pk:ByteArray):ByteArray:=match pe with
 | true=>{ data:=#[] }
 | false=>pk
def pkZ (pe:Bool) (pk:ByteArray):Nat:=match pe with
 | true=>0
 | false=>pk.size
noncomputable def kA (nm:Nat):Nat→ByteArray:=match nm with
 | 0=>fun _=>{ data:=#[] }
 | 1=>keys0
 | 2=>keys0
 | _=>fun _=>{ data:=#[] }
noncomputable def kB (nm:Nat):Nat→ByteArray:=match nm with
 | 0=>fun _=>{ data:=#[] }
 | 1=>fun _=>{ data:=#[] }
 | 2=>keys1
 | _=>fun _=>{ data:=#[] }
noncomputable def wcL (nm:Nat) (pe:Bool) (pk:ByteArray) (mk:BitVec 64) (nd:Nat) (X:Nat→BitVec 64):WC:=⟨BitVec.ofNat 64 (pkZ pe pk),ownN nm pe,ownR nm pe (pkE pe pk) mk,memN nm pe,nd,X,kA nm⟩
noncomputable def wrL (nm:Nat) (pe:Bool) (pk:ByteArray) (mk:BitVec 64) (nd:Nat):WR:=⟨memR nm pe pk mk,kB nm,0,0,nd⟩
theorem c_16 {a b:BitVec 64}:(catB (bytV a 8#64) (bytV b 8#64)).size=16:=by rw [catB_size,byt8,byt8]
set_option maxRecDepth 100000 in
theorem own_k {nm:Nat} {pe:Bool} (hn:nm=0∨nm=1∨nm=2) (pk:ByteArray) (mk:BitVec 64) (hp:pk.size≤100):∀ k,k<ownN nm pe→∃ b n,(ownR nm pe (pkE pe pk) mk k).b=b∧(ownR nm pe (pkE pe pk) mk k).d.size=n∧n≤512∧((b.toNat=131072∧n=512)∨b.toNat + n≤131072∨131584≤b.toNat):=by
 rcases hn with rfl | rfl | rfl<;>cases pe
 all_goals intro k hk
 all_goals (rcases k with _ | _ | _ | _ | _ | _ | k)
 all_goals first
  | exact ⟨65536#64,16,rfl,c_16,by decide,.inr (.inl (by decide))⟩
  | exact ⟨65552#64,8,rfl,byt8 mk,by decide,.inr (.inl (by decide))⟩
  | exact ⟨131072#64,512,rfl,zB_size 512,by decide,.inl ⟨rfl,rfl⟩⟩
  | exact ⟨196608#64,pk.size,rfl,rfl,by omega,.inr (.inr (by decide))⟩
  | exact ⟨1048576#64,32,rfl,zB_size 32,by decide,.inr (.inr (by decide))⟩
  | exact ⟨1114112#64,24,rfl,zB_size 24,by decide,.inr (.inr (by decide))⟩
  | exact absurd hk (by simp only [ownN];omega)
theorem own_ok {nm:Nat} {pe:Bool} (hn:nm=0∨nm=1∨nm=2) (pk:ByteArray) (mk:BitVec 64) (hp:pk.size≤100) (nd:Nat) (X:Nat→BitVec 64):WC.ok (wcL nm pe pk mk nd X):=by
 refine ⟨⟨?_,fun k hk=> ?_⟩,fun k hk=> ?_⟩
 · show ownN nm pe≤1000
   rcases hn with rfl | rfl | rfl<;>cases pe<;>decide
 · obtain ⟨b,n,-,e,h,-⟩:=own_k hn pk mk hp k hk
   subst e
   exact Nat.lt_of_le_of_lt h (by decide)
 · obtain ⟨b,n,e1,e2,-,h⟩:=own_k hn pk mk hp k hk
   subst e1
   subst e2
   exact h
theorem fact_m {nm:Nat} {pe:Bool} (hn:nm=0∨nm=1∨nm=2) (pk:ByteArray) (mk:BitVec 64):factR nm pe (memR nm pe pk mk) (pkZ pe pk):=by
 rcases hn with rfl | rfl | rfl<;>cases pe
 · exact mem_f00 pk mk
 · exact mem_f01 pk mk
 · exact mem_f10 pk mk
 · exact mem_f11 pk mk
 · exact mem_f20 pk mk
 · exact mem_f21 pk mk
theorem mem_ok {nm:Nat} {pe:Bool} (hn:nm=0∨nm=1∨nm=2) (pk:ByteArray) (mk:BitVec 64) (hp:pk.size≤100):RgOK (memR nm pe pk mk) (memN nm pe):=by
 have f:=fact_m hn pk mk (pe:=pe)
 rcases hn with rfl | rfl | rfl<;>cases pe
 all_goals refine ⟨by decide,fun k hk=> ?_⟩
 all_goals simp only [factR,pkZ] at f
 all_goals (rcases k with _ | _ | _ | _ | _ | _ | _ | k)
 all_goals first
  | exact absurd hk (by simp only [memN];omega)
  | (simp only [Nat.zero_add,Nat.reduceAdd,f];omega)
def lwB (de nil:Bool) (T T2 TD:TypeId) (len ns nd:Nat) (x:IT) (st:Nat→Bool) (X:Nat→BitVec 64):List (Nat×Blk):=(0,.ro T [.seg 5 len (inF x)])::((match nil with
 | true=>[]
 | false=>[(1,.ro T2 [.seg 1 ns (bF st)])])++(match de with
 | true=>[]
 | false=>[(2,.ro TD [.seg 1 nd (uF X)])]))
def lwA (de nil:Bool) (len cap ns cap2 nd dc:Nat) (ad ad3:Option Addr) (bs:ByteArray) (mk0:BitVec 64) (v0:Value):List AV:=[.one (.slc 0 0 len cap),.one (match nil with
 | true=> .raw (.slice ad 0 cap2)
 | false=> .slc 1 0 ns cap2),.agg [.str bs,.b64 false mk0,.raw v0,match de with
 | true=> .raw (.slice ad3 0 dc)
 | false=> .rsl 2 nd]]
end Go.Proofs.YthkgakelgdncjaaDoor
