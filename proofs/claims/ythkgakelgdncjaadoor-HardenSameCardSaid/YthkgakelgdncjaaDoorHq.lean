/- Chapter 04: what follows where nothing is wrong: second halves, ways, rounds. Conditions: as each says. -/
import Derived.Test.YthkgakelgdncjaaDoorOe
import Derived.Test.YthkgakelgdncjaaDoorNn
import Derived.Test.YthkgakelgdncjaaDoorPr
import Derived.Test.YthkgakelgdncjaaDoorOc
import Derived.Maps.Keyed
import Derived.WideKeyArgs
import Derived.WideKeyArgs2
import Derived.WideKeyElems2
import Derived.Deep.Strs
import Derived.MakeChecks
import Derived.FnData
import Derived.Test.YthkgakelgdncjaaDoorOm
import Derived.ChangeSlices
import Derived.Test.YthkgakelgdncjaaDoorRows
import Derived.Test.YthkgakelgdncjaaDoorOx
import Derived.Test.YthkgakelgdncjaaDoorOz
namespace Go.Proofs.YthkgakelgdncjaaDoor
open Go.Ep Go.RowKit
set_option linter.unusedVariables false
set_option linter.unusedSimpArgs false
structure Good (x:IT) (n:Nat) (m:BitVec 64) (w:Bool):Prop where
 pos:0<n
 most:n≤mostN w
 alone:∀ p,p<n→hf x p=false→aloneE x n (bv p) m w=0#64
 ways:WaysOK x n
 led:∀ p,p<n→hf x p=false→reachB x p=true
theorem good_of {x:IT} {n:Nat} {m:BitVec 64} {w:Bool} (h:(chk4 x n m w).2=0#64):Good x n m w:=by
 unfold chk4 at h
 split at h
 · cases h
 · rename_i hn
   have h0:0<n:=by omega
   have hm:n≤mostN w:=by omega
   have h8:n≤8000:=by have:mostN w≤192:=by cases w<;>decide
                      omega
   split at h
   · rename_i k e
     have:=(fstN_inv e).2.1
     unfold badA at this
     rw [show aloneE x n (bv k) m w=0#64 from h] at this
     simp at this
   · rename_i e
     have e:=fstN_none_inv e
     split at h
     · rename_i k e2
       have:=(fstN_inv e2).2.1
       unfold badW at this
       rw [show wayE x n (bv k)=0#64 from h] at this
       simp at this
     · rename_i e2
       have e2:=fstN_none_inv e2
       split at h
       · cases h
       · rename_i e3
         have e3:=fstN_none_inv e3
         refine ⟨h0,hm,fun p hp hh=> ?_,ways_of h8 e2,fun p hp hh=> ?_⟩
         · have:=e p hp
           unfold badA at this
           rw [hh] at this
           simpa using this
         · have:=e3 p hp
           rw [hh] at this
           simpa using this
theorem half_o {x:IT} {n p:Nat} {m:BitVec 64} {w:Bool} (G:Good x n m w) (hp:p<n) (hh:hf x p=true):(x p).o=0#8∧p + 1<n:=by
 have hn:=G.ways.small
 cases p with
 | zero=>cases hh
 | succ q=>
   rw [hf,Bool.and_eq_true,Bool.not_eq_true',beq_iff_eq] at hh
   have h1:=G.alone q (by omega) hh.1
   have hb:(bv q).toNat=q:=nat_ofNat (by omega)
   have hb1:(bv q + 1#64).toNat=q + 1:=by rw [show bv q + 1#64=bv (q + 1) from (BitVec.ofNat_add _ _).symm,bv,nat_ofNat (by omega)]
   have hf1:=fall_lt G.ways (p:=q) (by omega) hh.1 (by rw [hh.2];decide) (by rw [hh.2];decide)
   have hz:szN (x q).o=2:=by rw [hh.2];decide
   refine ⟨?_,by omega⟩
   unfold aloneE at h1
   rw [hb,hb1,hh.2] at h1
   split at h1
   · rename_i e;rw [h1] at e;exact absurd e (by decide)
   · rw [if_neg (by decide),if_pos (by decide)] at h1
     split at h1
     · cases h1
     · rename_i e
       rw [Bool.not_eq_true,Bool.or_eq_false_iff,Bool.not_eq_false',Bool.and_eq_true,beq_iff_eq] at e
       exact e.2.1
inductive Kind (x:IT) (n k:Nat):Prop
 | stop (h:n=k)
 | e (hl:(BitVec.ofNat 64 k).slt (BitVec.ofNat 64 n)=true) (he:endB (x (BitVec.ofNat 64 k).toNat).o=true) (hs:succ x k=[])
 | a (hl:(BitVec.ofNat 64 k).slt (BitVec.ofNat 64 n)=true) (he:endB (x (BitVec.ofNat 64 k).toNat).o=false) (ha:alwB (x (BitVec.ofNat 64 k).toNat).o=true) (hj:jmpB (x (BitVec.ofNat 64 k).toNat).o=true) (t0:(toK x k).slt 0#64=false) (t1:(BitVec.ofNat 64 n).sle (toK x k)=false) (t2:0≤(toK x k).toInt∧(toK x k).toNat<n) (hs:succ x k=[(toK x k).toNat])
 | c (hl:(BitVec.ofNat 64 k).slt (BitVec.ofNat 64 n)=true) (he:endB (x (BitVec.ofNat 64 k).toNat).o=false) (ha:alwB (x (BitVec.ofNat 64 k).toNat).o=false) (hj:jmpB (x (BitVec.ofNat 64 k).toNat).o=true) (n0:(BitVec.ofNat 64 k + szV (x (BitVec.ofNat 64 k).toNat).o).slt 0#64=false) (n1:(BitVec.ofNat 64 n).sle (BitVec.ofNat 64 k + szV (x (BitVec.ofNat 64 k).toNat).o)=false) (n2:0≤(BitVec.ofNat 64 k + szV (x (BitVec.ofNat 64 k).toNat).o).toInt∧(BitVec.ofNat 64 k + szV (x (BitVec.ofNat 64 k).toNat).o).toNat<n)
     (t0:(toK x k).slt 0#64=false) (t1:(BitVec.ofNat 64 n).sle (toK x k)=false) (t2:0≤(toK x k).toInt∧(toK x k).toNat<n) (hs:succ x k=[(BitVec.ofNat 64 k + szV (x (BitVec.ofNat 64 k).toNat).o).toNat,(toK x k).toNat])
 | s (hl:(BitVec.ofNat 64 k).slt (BitVec.ofNat 64 n)=true) (he:endB (x (BitVec.ofNat 64 k).toNat).o=false) (ha:alwB (x (BitVec.ofNat 64 k).toNat).o=false) (hj:jmpB (x (BitVec.ofNat 64 k).toNat).o=false) (n0:(BitVec.ofNat 64 k + szV (x (BitVec.ofNat 64 k).toNat).o).slt 0#64=false) (n1:(BitVec.ofNat 64 n).sle (BitVec.ofNat 64 k + szV (x (BitVec.ofNat 64 k).toNat).o)=false) (n2:0≤(BitVec.ofNat 64 k + szV (x (BitVec.ofNat 64 k).toNat).o).toInt∧(BitVec.ofNat 64 k + szV (x (BitVec.ofNat 64 k).toNat).o).toNat<n)
     (hs:succ x k=[(BitVec.ofNat 64 k + szV (x (BitVec.ofNat 64 k).toNat).o).toNat])
structure Turn (x:IT) (n:Nat) (g:Nat→Bool) (t:Nat):Prop where
 led:LedOK x g
 le:t≤n
 clo:Clo x n g∨cnt g n + t + 1≤n
theorem cnt_start {n:Nat} (h:0<n):cnt (mark (fun _=>false) 0) n + 1=n:=by
 rw [cnt_mark rfl n h,cnt_none]
theorem Turn.start {x:IT} {n:Nat} (h:0<n):Turn x n (mark (fun _=>false) 0) 0:=⟨LedOK.start x,Nat.zero_le _,.inr (by have:=cnt_start h;omega)⟩
theorem Turn.next {x:IT} {n t:Nat} {g g':Nat→Bool} {mo:Bool} (W:WaysOK x n) (h0:0<n) (h:Turn x n g t) (ht:t<n) (hi:Inner x n g g' mo n):Turn x n g' (t + 1):=by
 refine ⟨hi.led,ht,?_⟩
 cases hm:mo with
 | false=>rw [(hi.no hm).1];exact .inl (hi.no hm).2
 | true=>
   have hc:=hi.yes hm
   rcases h.clo with hl | hl
   · exfalso
     have eg:g=reachB x:=h.led.done W h0 hl
     have:=cnt_le (g:=g') (g':=g) (fun j hj=>by rw [eg];exact (reachB_iff x j).2 (hi.led.2 j hj)) n
     omega
   · exact .inr (by omega)
theorem Turn.done {x:IT} {n:Nat} {g:Nat→Bool} (W:WaysOK x n) (h0:0<n) (h:Turn x n g n):g=reachB x:=by
 refine h.led.done W h0 ?_
 rcases h.clo with h | h
 · exact h
 · omega
theorem alone_i {x:IT} {n p:Nat} {m:BitVec 64} {w:Bool} (hn:p<8000) (h:aloneE x n (bv p) m w=0#64):iCheck (x p).o (x p).d (x p).s (x p).f (x p).i w=0#64:=by
 have hb:(bv p).toNat=p:=nat_ofNat (by omega)
 unfold aloneE at h
 rw [hb] at h
 split at h
 · exact h
 · rename_i e
   simpa using e
def mayB (o:BitVec 8):Bool:=jmpB o&&o &&& 240#8 != 0#8
def stoB (o:BitVec 8):Bool:=o &&& 7#8==2#8||o &&& 7#8==3#8
def ledF (x:IT) (k:Nat):Nat→Bool:=fun j=>(List.range k).any fun i=>mayB (x i).o&&decide ((toV x (bv i)).toNat=j)
theorem ledF_zero (x:IT):ledF x 0=fun _=>false:=rfl
theorem ledF_no {x:IT} {k:Nat} (h:mayB (x k).o=false):ledF x (k + 1)=ledF x k:=by
 funext j
 unfold ledF
 rw [List.range_succ,List.any_append,List.any_cons,List.any_nil,h,Bool.false_and,Bool.or_false,Bool.or_false]
theorem ledF_yes {x:IT} {k:Nat} (h:mayB (x k).o=true):ledF x (k + 1)=mark (ledF x k) (toV x (bv k)).toNat:=by
 funext j
 unfold ledF mark
 rw [List.range_succ,List.any_append,List.any_cons,List.any_nil,h,Bool.true_and,Bool.or_false]
 by_cases e:j=(toV x (bv k)).toNat
 · rw [if_pos e,decide_eq_true e.symm,Bool.or_true]
 · rw [if_neg e,decide_eq_false (fun h=>e h.symm),Bool.or_false]
theorem ledF_some {x:IT} {n j:Nat}:ledF x n j=true ↔ ∃ k,k<n∧mayB (x k).o=true∧(toV x (bv k)).toNat=j:=by
 unfold ledF
 rw [List.any_eq_true]
 constructor
 · rintro ⟨k,h1,h2⟩
   rw [Bool.and_eq_true,decide_eq_true_eq] at h2
   exact ⟨k,List.mem_range.1 h1,h2.1,h2.2⟩
 · rintro ⟨k,h1,h2,h3⟩
   exact ⟨k,List.mem_range.2 h1,by rw [h2,decide_eq_true h3];rfl⟩
theorem ledF_none {x:IT} {n j:Nat} (h:∀ k,k<n→¬ (mayB (x k).o=true∧(toV x (bv k)).toNat=j)):ledF x n j=false:=by
 cases e:ledF x n j with
 | false=>rfl
 | true=>
   obtain ⟨k,h1,h2,h3⟩:=ledF_some.1 e
   exact absurd ⟨h2,h3⟩ (h k h1)
def hfN (x:IT) (a:Nat):Nat→Bool:=fun j=>decide (j<a)&&hf x j
theorem hfN_zero (x:IT):hfN x 0=fun _=>false:=by
 funext j
 unfold hfN
 rw [decide_eq_false (by omega),Bool.false_and]
theorem hfN_no {x:IT} {a:Nat} (h:hf x a=false):hfN x (a + 1)=hfN x a:=by
 funext j
 unfold hfN
 by_cases e:j=a
 · subst e;rw [h,Bool.and_false,Bool.and_false]
 · by_cases h1:j<a
   · rw [decide_eq_true h1,decide_eq_true (by omega)]
   · rw [decide_eq_false h1,decide_eq_false (by omega)]
theorem hfN_yes {x:IT} {a:Nat} (h:hf x a=false) (ho:((x a).o==24#8)=true):hfN x (a + 2)=mark (hfN x a) (a + 1):=by
 have h1:hf x (a + 1)=true:=by rw [hf,h,ho];rfl
 funext j
 unfold hfN mark
 by_cases e:j=a + 1
 · subst e;rw [if_pos rfl,h1,decide_eq_true (by omega)];rfl
 · rw [if_neg e]
   show (decide (j<a + 2)&&hf x j)=(decide (j<a)&&hf x j)
   by_cases e2:j=a
   · subst e2;rw [h,Bool.and_false,Bool.and_false]
   · by_cases h3:j<a
     · rw [decide_eq_true h3,decide_eq_true (by omega)]
     · rw [decide_eq_false h3,decide_eq_false (by omega)]
def behB (x:IT) (st:Nat→Bool) (ns:Nat) (k:Nat):Bool:= !hf x k&&(mayB (x k).o||(decide (k<ns)&&(st k&&stoB (x k).o)))
def behP (x:IT) (st:Nat→Bool) (ns:Nat):Nat→Bool
 | 0=>false
 | k + 1=>behB x st ns k
def barB (x:IT) (n:Nat) (st:Nat→Bool) (ns:Nat) (k:Nat):Bool:=behP x st ns k||ledF x n k
def barI:IN:=⟨194#8,0#8,0#8,0#16,0#32⟩
def lenO (b:Nat→Bool):Nat→Nat
 | 0=>0
 | k + 1=>lenO b k + (if b k then 2 else 1)
def appI {α:Type} (f:Nat→α) (m:Nat) (v:α):Nat→α:=fun j=>if m≤j then v else f j
def outO (x:IT) (b:Nat→Bool):Nat→IT
 | 0=>fun _=>barI
 | k + 1=>if b k then appI (appI (outO x b k) (lenO b k) barI) (lenO b k + 1) (x k) else appI (outO x b k) (lenO b k) (x k)
def frO (b:Nat→Bool):Nat→Nat→BitVec 64
 | 0=>fun _=>0#64
 | k + 1=>if b k then appI (appI (frO b k) (lenO b k) (BitVec.ofInt 64 (Int.negSucc 0))) (lenO b k + 1) (bv k) else appI (frO b k) (lenO b k) (bv k)
theorem app_zero {α:Type} (f:Nat→α) (v:α):appI f 0 v=fun _=>v:=by
 funext j
 exact if_pos (Nat.zero_le _)
theorem lenO_le (b:Nat→Bool):∀ k,k≤lenO b k∧lenO b k≤2*k
 | 0=>⟨Nat.le_refl _,Nat.le_refl _⟩
 | k + 1=>by
   have:=lenO_le b k
   unfold lenO
   split<;>omega
theorem fr_in (b:Nat→Bool):∀ n t,t<lenO b n→frO b n t=BitVec.ofInt 64 (Int.negSucc 0)∨∃ pc,pc<n∧frO b n t=bv pc
 | 0,t,h=>absurd h (Nat.not_lt_zero _)
 | n + 1,t,h=>by
   have ih:=fr_in b n t
   cases hb:b n with
   | false=>
     have e:lenO b (n + 1)=lenO b n + 1:=by rw [lenO,hb];rfl
     have e2:frO b (n + 1)=appI (frO b n) (lenO b n) (bv n):=by rw [frO,hb];rfl
     rw [e] at h
     rw [e2]
     unfold appI
     by_cases g:lenO b n≤t
     · rw [if_pos g];exact .inr ⟨n,Nat.lt_succ_self n,rfl⟩
     · rw [if_neg g]
       rcases ih (by omega) with q | ⟨pc,q1,q2⟩
       · exact .inl q
       · exact .inr ⟨pc,by omega,q2⟩
   | true=>
     have e:lenO b (n + 1)=lenO b n + 2:=by rw [lenO,hb];rfl
     have e2:frO b (n + 1)=appI (appI (frO b n) (lenO b n) (BitVec.ofInt 64 (Int.negSucc 0))) (lenO b n + 1) (bv n):=by rw [frO,hb];rfl
     rw [e] at h
     rw [e2]
     unfold appI
     by_cases g:lenO b n + 1≤t
     · rw [if_pos g];exact .inr ⟨n,Nat.lt_succ_self n,rfl⟩
     · rw [if_neg g]
       by_cases g2:lenO b n≤t
       · rw [if_pos g2];exact .inl rfl
       · rw [if_neg g2]
         rcases ih (by omega) with q | ⟨pc,q1,q2⟩
         · exact .inl q
         · exact .inr ⟨pc,by omega,q2⟩
def condO (x:IT) (b:Nat→Bool) (n t:Nat):Bool:= !(frO b n t).slt 0#64&&(!hf x (frO b n t).toNat&&jmpB (x (frO b n t).toNat).o)
def valO (x:IT) (b:Nat→Bool) (n t:Nat):BitVec 16:=BitVec.signExtend 16 (bv (lenO b (toV x (frO b n t)).toNat) - BitVec.ofNat 64 t - 1#64)
def out2 (x:IT) (b:Nat→Bool) (n:Nat):Nat→IT
 | 0=>outO x b n
 | t + 1=>if condO x b n t then (fun j=>if j=t then { out2 x b n t t with f:=valO x b n t } else out2 x b n t j) else out2 x b n t
theorem updF_in3 (k:Nat) (y:IT) (v:BitVec 16):updF (inF y) k 3 [PL.b16 true v]=inF (fun j=>if j=k then { y k with f:=v } else y j):=by
 funext j
 by_cases h:j=k
 · subst h;simp [updF,mergeP,pickP,inF]
 · simp [updF,mergeP,pickP,inF,h]
theorem o2_no {x:IT} {b:Nat→Bool} {n t:Nat} (h:condO x b n t=false):out2 x b n (t + 1)=out2 x b n t:=by rw [out2,h];rfl
theorem o2_yes {x:IT} {b:Nat→Bool} {n t:Nat} (h:condO x b n t=true):out2 x b n (t + 1)=fun j=>if j=t then { out2 x b n t t with f:=valO x b n t } else out2 x b n t j:=by rw [out2,h];rfl
end Go.Proofs.YthkgakelgdncjaaDoor
namespace Go.Ep
open Go.RowKit
set_option linter.unusedVariables false
set_option linter.unusedSimpArgs false
def spKS (z:Nat) (sq:Nat→(Nat→List PL)→List AV→Option (Cond×Blk×NewV)):SpK:=fun args bs=>match args with
 | .one (.slc i 0 len _)::rest=>match bs with
   | [(j,b)]=>match Nat.beq i j,rowOf z b with
     | true,some (n,f)=>match sq len f rest with
       | some (c,b',nv)=>some (bothC (.p (len≤n)) c,b',nv)
       | none=>none
     | _,_=>none
   | _=>none
 | .one (.rsl i len)::rest=>match bs with
   | [(j,b)]=>match Nat.beq i j,rowOf z b with
     | true,some (n,f)=>match sq len f rest with
       | some (c,b',nv)=>some (bothC (.p (len≤n)) c,b',nv)
       | none=>none
     | _,_=>none
   | _=>none
 | _=>none
section
variable {P : Program} {G : World → Prop}
theorem EntryK.of_slice {C:Table} (hC:CSound P G C) (hm:P.follows .mixedOrders=true) {f:FuncId} {fn:Func} {z:Nat} {sq:Nat→(Nat→List PL)→List AV→Option (Cond×Blk×NewV)} (hf:P.funcs[f]? =some fn)
 (hn:(fn.name== "runtime.NumGoroutine")=false) (hb:fn.body.isNone=false)
 (h:∀ len g rest c b nv,sq len g rest=some (c,b,nv)→c.holds→closed rest=true∧b.own=true∧b.names=[]∧∀ (T:TypeId) (cap:Nat),FI P C fn 1 (.one (.slc 0 0 len cap)::rest) [(0,.ro T [.seg z len g])] (fun v h=>∃ x,v= .one (nv.at x)∧look h x=some b)):EntryK P G f (spKS z sq):=by
 have key:∀ {i len n:Nat} {b:Blk} {g:Nat→List PL} {rest:List AV} {c:Cond} {b':Blk} {nv:NewV} {us:List Value} {ρ:Nat→Loc} {w:World} {cap:Nat},rowOf z b=some (n,g)→sq len g rest=some (c,b',nv)→len≤n→c.holds →
  RelAs ρ rest us→G w→RelB ρ (ρ i) b w.heap[(ρ i).b]? →Calls P f (.slice (some ⟨(ρ i).b,(ρ i).o,none⟩) len cap::us).toArray w (fun e w'=>∃ u q,e= .returned u∧RelL (fun _=>q) (nv.at 0) u∧RelB ρ q b' w'.heap[q.b]? ∧w.heap.size≤q.b∧Below w.heap.size w w'):=by
  intro i len n b g rest c b' nv us ρ w cap hr hs hle hc hrel hG hB
  obtain ⟨hcl,hown,hnm,hF⟩:=h len g rest c b' nv hs hc
  obtain ⟨cs,T,fr,e,us1,ws,hd,hseg⟩:=rowOf_rel hr hB
  have hcl':=closed_spec hcl
  have hle':z*len≤z*n:=Nat.mul_le_mul_left z hle
  refine (FI_sound hC hm hf (hF T cap) (fun m hm=> ?_) (fun v hv m hm=> ?_) w.heap.size w (fun _=>ρ i) (.slice (some ⟨(ρ i).b,(ρ i).o,none⟩) len cap::us) w hG rfl ⟨fun _=>by simp [gL],relAs_any hcl' hrel⟩
   (RelH.one (q:=ρ i) (T:=T) (us:=us1.take (z*len)) (ws:=us1.drop (z*len)++ws) e (by rw [hd,← List.append_assoc,List.take_append_drop]) ⟨_,[],by simp,hseg.take hle,rfl⟩ rfl)).mono ?_
  · rw [look_eq_beq] at hm
    split at hm
    · rename_i e;omega
    · simp [look] at hm
  · rcases List.mem_cons.1 hv with rfl | hv
    · obtain rfl:m=0:=by simpa [AV.names,L.names] using hm
      rw [look_eq_beq];simp
    · rw [hcl' v hv] at hm;simp at hm
  · rintro e w' ⟨v,h',u,ρ',⟨x,rfl,hx⟩,rfl,hr,-,H,-⟩
    exact ⟨u,ρ' x,rfl,nv_of hr,relB_agree (H.heap x b' hx) (by rw [hnm];simp),(H.low x b' hx).1 hown,H.below⟩
 refine ⟨⟨fn,hf,hn,hb⟩,fun args bs c b nv hs hc=> ?_⟩
 unfold spKS at hs
 split at hs
 · rename_i i len cap rest
   split at hs
   · rename_i j b0
     split at hs
     · rename_i n g hij hr
       obtain rfl:i=j:=by simpa using hij
       split at hs
       · rename_i c' b' nv' hsq
         simp only [Option.some.injEq,Prod.mk.injEq] at hs
         obtain ⟨rfl,rfl,rfl⟩:=hs
         obtain ⟨hle,hc'⟩:=bothC_holds hc
         refine ⟨(h len g rest c' b' nv' hsq hc').2.1,(h len g rest c' b' nv' hsq hc').2.2.1,fun us ρ hrel w hG hB hlt=> ?_⟩
         match us,hrel with
         | u::us,⟨h1,h2⟩=>
           have h1:=h1 (by simp)
           simp only [gL,Nat.add_zero] at h1
           subst h1
           exact key hr hsq hle hc' h2 hG (hB (i,b0) (by simp))
       · cases hs
     · cases hs
   · cases hs
 · rename_i i len rest
   split at hs
   · rename_i j b0
     split at hs
     · rename_i n g hij hr
       obtain rfl:i=j:=by simpa using hij
       split at hs
       · rename_i c' b' nv' hsq
         simp only [Option.some.injEq,Prod.mk.injEq] at hs
         obtain ⟨rfl,rfl,rfl⟩:=hs
         obtain ⟨hle,hc'⟩:=bothC_holds hc
         refine ⟨(h len g rest c' b' nv' hsq hc').2.1,(h len g rest c' b' nv' hsq hc').2.2.1,fun us ρ hrel w hG hB hlt=> ?_⟩
         match us,hrel with
         | u::us,⟨h1,h2⟩=>
           have h1:=h1 (by simp)
           simp only [gL] at h1
           subst h1
           exact key hr hsq hle hc' h2 hG (hB (i,b0) (by simp))
       · cases hs
     · cases hs
   · cases hs
 · cases hs
end
end Go.Ep
namespace Go.Proofs.YthkgakelgdncjaaDoor
open Go.Ep Go.RowKit
set_option linter.unusedVariables false
set_option linter.unusedSimpArgs false
abbrev tb_0:List (Nat×Sp):=[]
theorem C_00:CSound Tryd.prog anyWorld (tab noData tb_0):=CSound.start
def sp_hj:Sp
 | [.agg [.b8 false o,.b8 false d,.b8 false s,.b16 true f,.b32 true i]]=>some (Cond.t,.tup [(false,[.bool (jmpB o)]),(false,[.bool (mayB o)])])
 | _=>none
set_option maxRecDepth 100000 in
set_option maxHeartbeats 8000000 in
theorem e_hj:EntryOK Tryd.prog anyWorld 19 sp_hj:=by
 refine .of_F C_00 (by kernel_rfl) Tryd.func19 (by kernel_rfl) (by kernel_rfl) (fun args c v h hc=> ?_)
 unfold sp_hj at h
 split at h
 · rename_i o d s f i;cases h
   refine ⟨rfl,rfl,?_⟩
   repeat' (first
    | (with_reducible apply Given.mk;intro h;(try exact absurd h (by decide)))
    | ((conv=>whnf);with_reducible apply Both.mk))
   all_goals first
    | (with_reducible apply Ob.mk;kernel_rfl)
    | (with_reducible apply Ob.mk;decide)
    | ((conv=>whnf);refine ⟨?_⟩;simp only [AV.tup.injEq,List.cons.injEq,Prod.mk.injEq,L.bool.injEq,true_and,and_true];clear d s f i;revert o;decide +kernel)
 · cases h
abbrev tb_hj:List (Nat×Sp):=(19,sp_hj)::tb_0
theorem C_hj:CSound Tryd.prog anyWorld (tab noData tb_hj):=C_00.cons e_hj
def sp_hm:Sp
 | [.agg [.b8 false o,.b8 false d,.b8 false s,.b16 true f,.b32 true i]]=>some (Cond.t,.one (.bool (mayB o)))
 | _=>none
set_option maxRecDepth 100000 in
set_option maxHeartbeats 8000000 in
theorem e_hm:EntryOK Tryd.prog anyWorld 24 sp_hm:=by
 refine .of_F C_hj (by kernel_rfl) Tryd.func24 (by kernel_rfl) (by kernel_rfl) (fun args c v h hc=> ?_)
 unfold sp_hm at h
 split at h
 · rename_i o d s f i;cases h
   refine ⟨rfl,rfl,?_⟩
   repeat' (first
    | (with_reducible apply Given.mk;intro h;(try exact absurd h (by decide)))
    | ((conv=>whnf);with_reducible apply Both.mk))
   all_goals first
    | (with_reducible apply Ob.mk;kernel_rfl)
    | (with_reducible apply Ob.mk;decide)
    | ((conv=>whnf);refine ⟨?_⟩;simp only [AV.one.injEq,L.bool.injEq];clear d s f i;revert o;decide +kernel)
 · cases h
abbrev tb_hm:List (Nat×Sp):=(24,sp_hm)::tb_hj
theorem C_hm:CSound Tryd.prog anyWorld (tab noData tb_hm):=C_hj.cons e_hm
theorem bv_nat {k:Nat} (h:k<9223372036854775808):(bv k).toNat=k:=nat_ofNat (by omega)
theorem bv_pred (k:Nat) (h:k<9223372036854775807):bv (k + 1) - 1#64=bv k:=by
 have e1:=bv_nat (k:=k + 1) (by omega)
 have e2:=bv_nat (k:=k) (by omega)
 apply BitVec.eq_of_toNat_eq
 rw [BitVec.toNat_sub_of_le (by rw [BitVec.le_def,e1];exact Nat.succ_le_succ (Nat.zero_le k)),e1,e2]
 exact Nat.add_sub_cancel k 1
theorem half_b {x:IT} {k:Nat} (hk:k<9223372036854775807) (h:(!hf x k)=true):AV.one (.bool ((x (bv (k + 1) - 1#64).toNat).o==24#8))=AV.one (.bool (hf x (k + 1))):=by
 rw [bv_pred k hk,bv_nat (by omega),hf,h,Bool.true_and]
theorem half_c {x:IT} {k:Nat} (h:(!hf x k)=false):AV.one (.bool (!hf x k))=AV.one (.bool (hf x (k + 1))):=by
 rw [hf,h,Bool.false_and]
theorem half_d {x:IT} {k:Nat} (h:(!hf x k)=false):AV.one (.bool false)=AV.one (.bool (hf x (k + 1))):=by
 rw [hf,h,Bool.false_and]
theorem half_ix {len k:Nat} {p:BitVec 64} (hl:len≤8000) (hp:p.toNat≤len) (g:k<p.toNat):0≤(bv (k + 1) - 1#64).toInt∧(bv (k + 1) - 1#64).toNat<len:=by
 rw [bv_pred k (by omega),toInt_ofNat (by omega),bv_nat (by omega)]
 omega
theorem half_stepA (k:Nat):AV.one (.b64 true (bv (k + 1) + 1#64))=AV.one (.b64 true (bv (k + 1 + 1))):=by rw [bv,bv,BitVec.ofNat_add (k + 1) 1]
set_option maxRecDepth 100000 in
set_option maxHeartbeats 8000000 in
theorem half_walk (T:TypeId) (len cap:Nat) (x:IT) (p:BitVec 64) (hl:len≤8000) (hp:p.toNat≤len):FI Tryd.prog (tab noData tb_hm) Tryd.f23 1 [.one (.slc 0 0 len cap),.one (.b64 true p)] [(0,.ro T [.seg 5 len (inF x)])] (fun r _=>r= .one (.bool (hf x p.toNat))):=by
 have hpi:p.toInt=(p.toNat:Int):=by rw [BitVec.toInt_eq_toNat_cond];split<;>omega
 repeat' (first
  | ((with_reducible apply Given.mk);intro h;(try ((have _q:=q);rw [q] at h;exact absurd h (by decide))))
  | ((conv=>whnf);first | with_reducible apply Both.mk | ((fail_if_success (have _q:=hk));refine LoopP.mk (Nat) (fun k=>k≤p.toNat) (fun k=>mkS (Tryd.f23).ntmps [(0,.one (.slc 0 0 len cap)),(1,.one (.b64 true p)),(4,.one (.bool false)),(5,.one (.bool (hf x k))),(6,.one (.b64 true (bv (k + 1))))] [(0,.ro T [.seg 5 len (inF x)])]) (fun k=>p.toNat - k) ⟨0,Nat.zero_le _,⟨?_,?_,?_,?_,?_⟩⟩ ?_;(iterate 2 (focus ((repeat' ((conv=>whnf);first | exact trivial | refine Both.mk (by first | with_reducible rfl | exact iN_succ _ | rfl) ?_));done)));(iterate 3 (focus exact rfl));(rintro k hk;rcases Nat.lt_or_ge k p.toNat with g | g;(have q:(bv (k + 1)).sle p=true:=by rw [BitVec.sle_iff_toInt_le,toInt_ofNat (by omega),hpi];omega);rotate_left 1;(have e:k=p.toNat:=Nat.le_antisymm hk g);(have q:(bv (k + 1)).sle p=false:=by rw [← Bool.not_eq_true,BitVec.sle_iff_toInt_le,toInt_ofNat (by omega),hpi];omega);rotate_left 1))))
 all_goals first
  | ((with_reducible apply Ob.mk);exact half_ix hl hp g)
  | ((with_reducible apply Ob.mk);exact (half_ix hl hp g).2)
  | (with_reducible apply Ob.mk;kernel_rfl)
  | ((have _g:=g);((conv=>whnf);refine ⟨k + 1,(show k + 1≤p.toNat from g),(show p.toNat - (k + 1)<p.toNat - k by omega),⟨?_,?_,?_,?_,?_⟩⟩;(iterate 2 (focus ((repeat' ((conv=>whnf);first | exact trivial | refine Both.mk (by first | with_reducible rfl | exact iN_succ _ | exact half_stepA _ | exact half_b (by omega) h | exact half_c h | exact half_d h | rfl) ?_));done)));(iterate 3 (focus exact rfl))))
  | ((have _e:=e);(conv=>whnf);subst e;exact rfl)
  | ((conv=>whnf);skip)
noncomputable def sq_half (len:Nat) (g:Nat→List PL) (rest:List AV):Option (Cond×AV):=match rest with
 | [.one (.b64 true p)]=>some (Cond.p (len≤8000∧g=inF (inOf g)∧p.toNat≤len∧0<len),.one (.bool (hf (inOf g) p.toNat)))
 | _=>none
set_option maxRecDepth 100000 in
theorem e_half:EntryM Tryd.prog anyWorld 23 (spS 5 sq_half):=by
 refine .of_slice C_hm (by kernel_rfl) Tryd.func23 (by kernel_rfl) (by kernel_rfl) (fun len g rest c v h hc=> ?_) (fun rest c v h hc ad cap=> ?_)
 · unfold sq_half at h
   split at h
   · rename_i p
     cases h
     obtain ⟨h1,h2,h3,_⟩:=hc
     refine ⟨rfl,rfl,fun T cap=> ?_⟩
     generalize inOf g=x at *
     subst h2
     exact half_walk T len cap x p h1 h3
   · cases h
 · unfold sq_half at h
   split at h
   · cases h
     exact absurd hc.2.2.2 (by decide)
   · cases h
theorem l1_nat {len:Nat} (hl:len≤8000):(BitVec.ofNat 64 len + 1#64).toNat=len + 1:=by
 rw [BitVec.toNat_add,nat_ofNat (by omega)]
 show (len + 1) % 2 ^ 64=_
 omega
theorem l1_A {len i:Nat} (hl:len≤8000):AV.one (.rsl i (BitVec.ofNat 64 len + 1#64).toNat)=AV.one (.rsl i (len + 1)):=by rw [l1_nat hl]
theorem l1_B {len:Nat} {f g:Nat→List PL} (hl:len≤8000) (h:f=g):Blk.row 4 1 (BitVec.ofNat 64 len + 1#64).toNat f=Blk.row 4 1 (len + 1) g:=by rw [l1_nat hl,h]
theorem bF_zero (g:Nat→Bool) (h:g=fun _=>false):(fun _=>[PL.bool false])=bF g:=by subst h;rfl
theorem bvs (k:Nat):bv k + 1#64=bv (k + 1):=by rw [bv,bv,BitVec.ofNat_add k 1]
theorem hv_A {x:IT} {a:Nat} (h:((x a).o==24#8)=false):AV.one (.b64 true (bv a + 1#64))=iN (a + szN (x a).o):=by
 have e:szN (x a).o=1:=by unfold szN;rw [h];rfl
 rw [e]
 exact iN_succ a
theorem hv_B {x:IT} {a:Nat} (h:((x a).o==24#8)=true):AV.one (.b64 true (bv a + 1#64 + 1#64))=iN (a + szN (x a).o):=by
 have e:szN (x a).o=2:=by unfold szN;rw [h];rfl
 rw [e,bvs]
 exact iN_succ (a + 1)
theorem hv_C {x:IT} {a n:Nat} (hh:hf x a=false) (h:((x a).o==24#8)=false):Blk.row 4 1 n (bF (hfN x a))=Blk.row 4 1 n (bF (hfN x (a + szN (x a).o))):=by
 have e:szN (x a).o=1:=by unfold szN;rw [h];rfl
 rw [e,hfN_no hh]
theorem hv_D {x:IT} {a n:Nat} (ha:a<9223372036854775807) (hh:hf x a=false) (h:((x a).o==24#8)=true):Blk.row 4 1 n (updF (bF (hfN x a)) (bv a + 1#64).toNat 0 [.bool true])=Blk.row 4 1 n (bF (hfN x (a + szN (x a).o))):=by
 have e:szN (x a).o=2:=by unfold szN;rw [h];rfl
 rw [e,hfN_yes hh h,bvs,bv_nat (by omega),bF_upd]
 rfl
theorem sz_in {x:IT} {a len:Nat} (g:a<len):a + szN (x a).o≤len + 1:=by
 have:szN (x a).o≤2:=by unfold szN;split<;>omega
 omega
theorem hv_end {x:IT} {a n:Nat} (hh:hf x a=false) (h1:n≤a) (h2:a≤n + 1):hfN x a=hfN x (n + 1):=by
 rcases Nat.lt_or_ge a (n + 1) with g | g
 · obtain rfl:a=n:=by omega
   exact (hfN_no hh).symm
 · obtain rfl:a=n + 1:=by omega
   rfl
theorem hv_ix1 {len a:Nat} (hl:len≤8000) (g:a<len):0≤(BitVec.ofNat 64 a).toInt∧(BitVec.ofNat 64 a).toNat<len:=by
 rw [toInt_ofNat (by omega),nat_ofNat (by omega)]
 omega
theorem hv_ix2 {len a:Nat} (hl:len≤8000) (g:a<len):0≤(BitVec.ofNat 64 a + 1#64).toInt∧(BitVec.ofNat 64 a + 1#64).toNat<len + 1:=by
 have e:BitVec.ofNat 64 a + 1#64=BitVec.ofNat 64 (a + 1):=bvs a
 rw [e,toInt_ofNat (by omega),nat_ofNat (by omega)]
 omega
set_option maxRecDepth 100000 in
set_option maxHeartbeats 8000000 in
theorem halves_walk (T:TypeId) (len cap:Nat) (x:IT) (hl:len≤8000):FI Tryd.prog (tab noData tb_hm) Tryd.f18 1 [.one (.slc 0 0 len cap)] [(0,.ro T [.seg 5 len (inF x)])] (fun v h=>∃ i,v= .one ((NewV.r (len + 1)).at i)∧Ep.look h i=some (.row 4 1 (len + 1) (bF (hfN x (len + 1))))):=by
 repeat' (first
  | ((with_reducible apply Given.mk);intro h;(try ((have _q:=q);rw [q] at h;exact absurd h (by decide)));(try simp only [na] at h))
  | ((conv=>whnf);first | with_reducible apply Both.mk | ((fail_if_success (have _q:=hk));refine LoopP.mk (Nat) (fun a=>hf x a=false∧a≤len + 1) (fun a=>mkS (Tryd.f18).ntmps [(0,.one (.slc 0 0 len cap)),(2,.one (.raw (.slice none 0 0))),(3,.one (.rsl 9 (len + 1))),(4,iN a)] [(9,.row 4 1 (len + 1) (bF (hfN x a))),(0,.ro T [.seg 5 len (inF x)])]) (fun a=>len + 2 - a) ⟨0,⟨rfl,Nat.zero_le _⟩,⟨?_,?_,?_,?_,?_⟩⟩ ?_;(iterate 2 (focus ((repeat' ((conv=>whnf);first | exact trivial | refine Both.mk (by first | with_reducible rfl | exact iN_succ _ | exact l1_A hl | exact l1_B hl (bF_zero _ (hfN_zero x)) | rfl) ?_));done)));(iterate 3 (focus exact rfl));(rintro a hk;(have na:(BitVec.ofNat 64 a).toNat=a:=nat_ofNat (by omega));rcases Nat.lt_or_ge a len with g | g;(have q:(BitVec.ofNat 64 a).slt (BitVec.ofNat 64 len)=true:=by rw [slt_nat (by omega) (by omega)];exact decide_eq_true g);rotate_left 1;(have e:len≤a:=g);(have q:(BitVec.ofNat 64 a).slt (BitVec.ofNat 64 len)=false:=by rw [slt_nat (by omega) (by omega)];exact decide_eq_false (by omega));rotate_left 1))))
 all_goals first
  | ((with_reducible apply Ob.mk);exact hv_ix1 hl g)
  | ((with_reducible apply Ob.mk);exact (hv_ix1 hl g).2)
  | ((with_reducible apply Ob.mk);exact hv_ix2 hl g)
  | ((with_reducible apply Ob.mk);exact (hv_ix2 hl g).2)
  | ((with_reducible apply Ob.mk);exact ⟨rfl,(by rw [l1_nat hl];omega)⟩)
  | ((with_reducible apply Ob.mk);show len<9223372036854775808;omega)
  | (with_reducible apply Ob.mk;kernel_rfl)
  | ((have _g:=g);((conv=>whnf);refine ⟨a + szN (x a).o,⟨hf_next x hk.1,(sz_in g)⟩,(by have:=sz_pos (x a).o;omega),⟨?_,?_,?_,?_,?_⟩⟩;(iterate 2 (focus ((repeat' ((conv=>whnf);first | exact trivial | refine Both.mk (by first | with_reducible rfl | exact iN_succ _ | exact hv_A h | exact hv_B h | exact hv_C hk.1 h | exact hv_D (by omega) hk.1 h | rfl) ?_));done)));(iterate 3 (focus exact rfl))))
  | ((have _e:=e);(conv=>whnf);exact ⟨_,rfl,congrArg (fun f=>some (Blk.row 4 1 (len + 1) (bF f))) (hv_end hk.1 e hk.2)⟩)
  | ((conv=>whnf);skip)
def TgOK (x:IT) (n:Nat):Prop:=∀ k,k<n→mayB (x k).o=true→0≤(toV x (bv k)).toInt∧(toV x (bv k)).toNat<n + 1
theorem tg_A {x:IT} {k n:Nat} (h:mayB (x k).o=false):Blk.row 4 1 n (bF (ledF x k))=Blk.row 4 1 n (bF (ledF x (k + 1))):=by rw [ledF_no h]
theorem tg_B {x:IT} {k n:Nat} (h:mayB (x k).o=true):Blk.row 4 1 n (updF (bF (ledF x k)) (toV x (bv k)).toNat 0 [.bool true])=Blk.row 4 1 n (bF (ledF x (k + 1))):=by
 rw [ledF_yes h,bF_upd]
 rfl
theorem toV_eq {x:IT} {k:Nat} (na:(BitVec.ofNat 64 k).toNat=k):BitVec.ofNat 64 k + 1#64 + BitVec.signExtend 64 (x k).f=toV x (bv k):=by
 unfold toV bv
 rw [na]
set_option maxRecDepth 100000 in
set_option maxHeartbeats 8000000 in
theorem targets_walk (T:TypeId) (len cap:Nat) (x:IT) (hl:len≤8000) (ht:TgOK x len):FI Tryd.prog (tab noData tb_hm) Tryd.f17 1 [.one (.slc 0 0 len cap)] [(0,.ro T [.seg 5 len (inF x)])] (fun v h=>∃ i,v= .one ((NewV.r (len + 1)).at i)∧Ep.look h i=some (.row 4 1 (len + 1) (bF (ledF x len)))):=by
 repeat' (first
  | ((with_reducible apply Given.mk);intro h;(try ((have _q:=q);rw [q] at h;exact absurd h (by decide)));(try simp only [na] at h))
  | ((conv=>whnf);first | with_reducible apply Both.mk | ((fail_if_success (have _q:=hk));refine LoopP.mk (Nat) (fun k=>k≤len) (fun k=>mkS (Tryd.f17).ntmps [(0,.one (.slc 0 0 len cap)),(2,.one (.raw (.slice none 0 0))),(3,.one (.rsl 12 (len + 1))),(12,.one (.slc 0 0 len cap)),(13,.one (.b64 true (BitVec.ofNat 64 len))),(14,iN k)] [(12,.row 4 1 (len + 1) (bF (ledF x k))),(0,.ro T [.seg 5 len (inF x)])]) (fun k=>len - k) ⟨0,Nat.zero_le _,⟨?_,?_,?_,?_,?_⟩⟩ ?_;(iterate 2 (focus ((repeat' ((conv=>whnf);first | exact trivial | refine Both.mk (by first | with_reducible rfl | exact iN_succ _ | exact l1_A hl | exact l1_B hl (bF_zero _ (ledF_zero x)) | rfl) ?_));done)));(iterate 3 (focus exact rfl));(rintro k hk;(have na:(BitVec.ofNat 64 k).toNat=k:=nat_ofNat (by omega));rcases Nat.lt_or_ge k len with g | g;(have q:(BitVec.ofNat 64 k).slt (BitVec.ofNat 64 len)=true:=by rw [slt_nat (by omega) (by omega)];exact decide_eq_true g);rotate_left 1;(have e:k=len:=Nat.le_antisymm hk g);(have q:(BitVec.ofNat 64 k).slt (BitVec.ofNat 64 len)=false:=by rw [slt_nat (by omega) (by omega)];exact decide_eq_false (by omega));rotate_left 1))))
 all_goals first
  | ((with_reducible apply Ob.mk);exact hv_ix1 hl g)
  | ((with_reducible apply Ob.mk);exact (hv_ix1 hl g).2)
  | ((with_reducible apply Ob.mk);rw [na,toV_eq na];exact ht k g h)
  | ((with_reducible apply Ob.mk);rw [na,toV_eq na];exact (ht k g h).2)
  | ((with_reducible apply Ob.mk);exact ⟨rfl,(by rw [l1_nat hl];omega)⟩)
  | ((with_reducible apply Ob.mk);show len<9223372036854775808;omega)
  | (with_reducible apply Ob.mk;kernel_rfl)
  | ((have _g:=g);((conv=>whnf);refine ⟨k + 1,(show k + 1≤len from g),(show len - (k + 1)<len - k by omega),⟨?_,?_,?_,?_,?_⟩⟩;(iterate 2 (focus ((repeat' ((conv=>whnf);first | exact trivial | refine Both.mk (by first | with_reducible rfl | exact iN_succ _ | exact tg_A h | (rw [na,toV_eq na];exact tg_B h) | rfl) ?_));done)));(iterate 3 (focus exact rfl))))
  | ((have _e:=e);(conv=>whnf);subst e;exact ⟨_,rfl,rfl⟩)
  | ((conv=>whnf);skip)
noncomputable def sq_halves (len:Nat) (g:Nat→List PL) (rest:List AV):Option (Cond×Blk×NewV):=match rest with
 | []=>some (Cond.p (len≤8000∧g=inF (inOf g)),.row 4 1 (len + 1) (bF (hfN (inOf g) (len + 1))),.r (len + 1))
 | _=>none
noncomputable def sq_targets (len:Nat) (g:Nat→List PL) (rest:List AV):Option (Cond×Blk×NewV):=match rest with
 | []=>some (Cond.p (len≤8000∧g=inF (inOf g)∧TgOK (inOf g) len),.row 4 1 (len + 1) (bF (ledF (inOf g) len)),.r (len + 1))
 | _=>none
set_option maxRecDepth 100000 in
theorem e_halves:EntryK Tryd.prog anyWorld 18 (spKS 5 sq_halves):=by
 refine .of_slice C_hm (by kernel_rfl) Tryd.func18 (by kernel_rfl) (by kernel_rfl) (fun len g rest c b nv h hc=> ?_)
 unfold sq_halves at h
 split at h
 · cases h
   obtain ⟨h1,h2⟩:=hc
   refine ⟨rfl,rfl,rfl,fun T cap=> ?_⟩
   generalize inOf g=x at *
   subst h2
   exact halves_walk T len cap x h1
 · cases h
set_option maxRecDepth 100000 in
theorem e_targets:EntryK Tryd.prog anyWorld 17 (spKS 5 sq_targets):=by
 refine .of_slice C_hm (by kernel_rfl) Tryd.func17 (by kernel_rfl) (by kernel_rfl) (fun len g rest c b nv h hc=> ?_)
 unfold sq_targets at h
 split at h
 · cases h
   obtain ⟨h1,h2,h3⟩:=hc
   refine ⟨rfl,rfl,rfl,fun T cap=> ?_⟩
   generalize inOf g=x at *
   subst h2
   exact targets_walk T len cap x h1 h3
 · cases h
end Go.Proofs.YthkgakelgdncjaaDoor
namespace Go.Ep
open Go.RowKit Go.ChangeShapes Go.WideShapes Go.WideElems
set_option linter.unusedVariables false
set_option linter.unusedSimpArgs false
abbrev elemU (P:Program) (W:World) (n:Nat) (e:TypeId):Value→Option (DataW Unit×List MemPlace):=elemAt (fun _=>()) P W 0 (fun _=>true) false n e
structure MapIs (P:Program) (k e:TypeId) (D:DataW Unit) (w:World) (g b:Nat):Prop where
 cell:w.cell? ⟨g,0,none⟩=some (.map (some b))
 lowG:g<w.heap.size
 lowB:b<w.heap.size
 row:∃ es clock n W,w.heap[b]? =some (.map es clock)∧Fit P k (elemU P W n e) es clock∧D= .map ((es.toList.map (rg P k (elemU P W n e))).foldr DataW.insert [])
section
variable {P : Program} {k e T : TypeId} {D : DataW Unit} {w w' : World} {g b : Nat}
theorem MapIs.later (h:MapIs P k e D w g b) (hb:Below w.heap.size w w'):MapIs P k e D w' g b:=by
 obtain ⟨es,clock,n,W,h1,h2,h3⟩:=h.row
 exact ⟨by rw [World.cell?_of_block (w:=w) (hb.block g h.lowG)];exact h.cell,Nat.lt_of_lt_of_le h.lowG hb.size,Nat.lt_of_lt_of_le h.lowB hb.size,es,clock,n,W,by rw [hb.block b h.lowB];exact h1,h2,h3⟩
theorem MapIs.load (h:MapIs P k e D w g b) (hA:isAggT P T=some false):(loadVar T ⟨g,0,none⟩).run P w= .ok (.map (some b)) w:=by
 simp [loadVar,isAgg_run hA,h.cell]
theorem MapIs.look (K:Maps.Keyed P k) (ht:P.underlying T=some (.map k e)) {z:Value} (hz:(zeroValue e).run P w= .ok z w) (h:MapIs P k e D w g b) (c:Bool) {key:Value} {kl:Lit} (hkey:keyOf P k key=some kl) :
 ((Instr.lookup T (.map (some b)) key c).run P w= .ok (if c then .tuple #[z,.bool false] else z) w∧∀ zd,D.atKey kl zd=zd) ∨
 ∃ v y n W,(Instr.lookup T (.map (some b)) key c).run P w= .ok (if c then .tuple #[v,.bool true] else v) w∧elemU P W n e v=some y∧∀ zd,D.atKey kl zd=y.1:=by
 obtain ⟨es,clock,n,W,h1,h2,h3⟩:=h.row
 rcases Maps.fit_look c K ht hz h1 h2 hkey with ⟨h4,-,h5⟩ | ⟨e0,y,-,-,h4,h5,h6,-⟩
 · exact .inl ⟨h4,by rw [h3];exact h5⟩
 · exact .inr ⟨_,y,n,W,h4,h5,by rw [h3];exact h6⟩
end
end Go.Ep
namespace Go.Proofs.YthkgakelgdncjaaDoor
open Go.ChangeShapes Go.WideShapes Go.ChangeAt Go.RowKit
set_option linter.unusedVariables false
set_option linter.unusedSimpArgs false
def flatC {H:Type}:Nat→DataW H→List Value
 | 0,_=>[]
 | _ + 1,.lit (.int k n)=>[.int k n]
 | _ + 1,.lit (.bool b)=>[.bool b]
 | _ + 1,.lit (.string s)=>[.string ⟨⟨s⟩⟩]
 | n + 1,.agg ds=>ds.flatMap (flatC n)
 | _,_=>[]
theorem oks_len:∀ {ls:List Leaf} {cs:List Value},oks ls cs→ls.length=cs.length
 | [],[],_=>rfl
 | _::_,_::_,h=>by simp [oks_len h.2]
 | [],_::_,h=>h.elim
 | _::_,[],h=>h.elim
section
variable {H : Type} {enc : TypeId × Value → H} {P : Program} {w : World} {base : Nat} {spare : Nat → Bool} {held : Bool}
theorem fields_data {m d:Nat} {g:TypeId→Option (List Leaf)}
 (hg:∀ t l cs x,g t=some l→DataW.trod enc P w base spare held m t cs=some x→flatC d x.1=cs∧l.length=cs.length) (cs:List Value) :
 ∀ (fs:List Field) (o:Nat) (ls:List Leaf) (xs:List (DataW H×List MemPlace)),flatFields P g o fs=some ls→o + ls.length=cs.length →
   (fs.mapM fun f=>DataW.trod enc P w base spare held m f.type ((cs.drop f.offset).take (P.cellsOf f.type)))=some xs→(xs.map (·.1)).flatMap (flatC d)=cs.drop o:=by
 intro fs
 induction fs with
 | nil=>
   intro o ls xs h hl hx
   simp only [flatFields,Option.some.injEq] at h
   subst h
   simp at hx
   subst hx
   rw [List.drop_of_length_le (by simp at hl;omega)]
   rfl
 | cons f fs ih=>
   intro o ls xs h hl hx
   simp only [flatFields] at h
   split at h
   · rename_i ho
     obtain ⟨l,hgl,h⟩:=Option.bind_eq_some_iff.1 h
     split at h
     · rename_i hlen
       obtain ⟨ls',h',rfl⟩:=Option.map_eq_some_iff.1 h
       simp only [List.mapM_cons,Option.bind_eq_bind,Option.pure_def] at hx
       obtain ⟨x,hx0,hx⟩:=Option.bind_eq_some_iff.1 hx
       obtain ⟨xs',hx1,hx⟩:=Option.bind_eq_some_iff.1 hx
       obtain rfl:=Option.some.inj hx
       obtain ⟨h1,h2⟩:=hg _ _ _ _ hgl hx0
       rw [ho,← hlen] at h1
       have h3:=ih _ _ _ h' (by simp at hl;omega) hx1
       rw [split_at cs o l.length]
       simp only [List.map_cons,List.flatMap_cons]
       rw [h1,h3]
     · cases h
   · cases h
theorem array_data {m d:Nat} {e:TypeId} {l:List Leaf} (hg:∀ cs x,DataW.trod enc P w base spare held m e cs=some x→flatC d x.1=cs∧l.length=cs.length) (cs:List Value) (c:Nat) (hc:l.length=c) :
 ∀ (n o:Nat) (xs:List (DataW H×List MemPlace)),o + n*c=cs.length →
   ((List.range' 0 n).mapM fun i=>DataW.trod enc P w base spare held m e ((cs.drop (o + i*c)).take c))=some xs→(xs.map (·.1)).flatMap (flatC d)=cs.drop o:=by
 have key:∀ (n s o:Nat) (xs:List (DataW H×List MemPlace)),o + (s + n)*c=cs.length →
  ((List.range' s n).mapM fun i=>DataW.trod enc P w base spare held m e ((cs.drop (o + i*c)).take c))=some xs→(xs.map (·.1)).flatMap (flatC d)=cs.drop (o + s*c):=by
  intro n
  induction n with
  | zero=>
    intro s o xs hl hx
    simp at hx
    subst hx
    rw [List.drop_of_length_le (by simp at hl;omega)]
    rfl
  | succ n ih=>
    intro s o xs hl hx
    rw [List.range'_succ] at hx
    simp only [List.mapM_cons,Option.bind_eq_bind,Option.pure_def] at hx
    obtain ⟨x,hx0,hx⟩:=Option.bind_eq_some_iff.1 hx
    obtain ⟨xs',hx1,hx⟩:=Option.bind_eq_some_iff.1 hx
    obtain rfl:=Option.some.inj hx
    obtain ⟨h1,h2⟩:=hg _ _ hx0
    have h3:=ih (s + 1) o xs' (by rw [show s + 1 + n=s + (n + 1) by omega];exact hl) hx1
    rw [split_at cs (o + s*c) c]
    simp only [List.map_cons,List.flatMap_cons]
    rw [h1,h3,show o + (s + 1)*c=o + s*c + c by rw [Nat.add_mul];omega]
 intro n o xs hl hx
 have:=key n 0 o xs (by simpa using hl) hx
 simpa using this
theorem flat_data:∀ (d fuel:Nat) (t:TypeId) (l:List Leaf) (cs:List Value) (x:DataW H×List MemPlace),flat P d t=some l→DataW.trod enc P w base spare held fuel t cs=some x →
 flatC d x.1=cs∧l.length=cs.length:=by
 intro d
 induction d with
 | zero=>intro _ _ _ _ _ h;cases h
 | succ d ih=>
   intro fuel t l cs x hf h
   refine ⟨?_,oks_len (flat_oks (d + 1) fuel t l cs x hf h)⟩
   simp only [flat] at hf
   cases fuel with
   | zero=>simp [DataW.trod] at h
   | succ fuel=>
     unfold DataW.trod at h
     split at hf
     · rename_i ht
       rw [ht] at h
       split at h<;>simp_all
       subst h;rfl
     · rename_i k ht
       rw [ht] at h
       split at h<;>simp_all
       obtain ⟨-,rfl⟩:=h;rfl
     · rename_i ht
       rw [ht] at h
       split at h<;>simp_all
       obtain ⟨-,rfl⟩:=h;rfl
     · rename_i fs ht
       obtain ⟨l',h1,h2⟩:=Option.bind_eq_some_iff.1 hf
       split at h2
       · rename_i hl
         obtain rfl:=Option.some.inj h2
         rw [ht] at h
         simp only at h
         split at h
         · rename_i hcs
           obtain ⟨xs,hx,rfl⟩:=Option.map_eq_some_iff.1 h
           have:=fields_data (d:=d) (fun t l cs x a b=>ih fuel t l cs x a b) cs fs.toList 0 l' xs h1 (by omega) hx
           simpa [flatC] using this
         · cases h
       · cases h2
     · rename_i n e ht
       obtain ⟨l',h1,h2⟩:=Option.bind_eq_some_iff.1 hf
       split at h2
       · rename_i hl
         rw [ht] at h
         simp only at h
         split at h
         · rename_i hcs
           obtain ⟨xs,hx,rfl⟩:=Option.map_eq_some_iff.1 h
           have:=array_data (d:=d) (fun cs x b=>ih fuel e l' cs x h1 b) cs (P.cellsOf e) hl.1 n 0 xs (by rw [← hl.1,Nat.zero_add,hl.2,hcs]) (by simpa [List.range_eq_range'] using hx)
           simpa [flatC] using this
         · cases h
       · cases h2
     · cases hf
end
theorem laid_flat {P:Program} {w:World} {name:String} {D:DataW Unit} {rest:List (String×DataW Unit)} {ps:List MemPlace} {g:Nat} {T:TypeId} {l:List Leaf} (h:DataW.LaidVars P w ((name,D)::rest) ps) (hg:P.globalNamed name=some g)
 (hT:(P.globals[g]?).map (·.type)=some T) (d:Nat) (hf:flat P d T=some l):(∀ j,j<(flatC d D).length→w.cell? ⟨g,j,none⟩=(flatC d D)[j]?)∧∃ q,DataW.LaidVars P w rest q:=by
 obtain ⟨g0,t0,cs0,f0,p0,q0,hg0,ht0,hv0,hd0,hr,-⟩:=h
 obtain rfl:=Option.some.inj (hg.symm.trans hg0)
 obtain rfl:=Option.some.inj (hT.symm.trans ht0)
 have h1:=(flat_data d f0 T l cs0.toList _ hf hd0).1
 refine ⟨fun j hj=> ?_,q0,hr⟩
 rw [h1]
 have:=World.var?_cell hg0 hv0 j
 simpa using this
end Go.Proofs.YthkgakelgdncjaaDoor
namespace Go.Proofs.YthkgakelgdncjaaDoor
open Go.Ep Go.RowKit Go.ChangeShapes Go.WideShapes
set_option linter.unusedVariables false
set_option linter.unusedSimpArgs false
abbrev gBar:Nat:=0
def Gbar:World→Prop:=fun w=>gBar<w.heap.size∧∀ j,j<(flatC 8 (Rows.laid_firewall_harden_barrier:DataW Unit)).length→w.cell? ⟨gBar,j,none⟩=(flatC 8 (Rows.laid_firewall_harden_barrier:DataW Unit))[j]?
def Dbar:VData where
 glob:=fun T g off=>match Nat.beq T 54,Nat.beq g gBar,Nat.beq off 0 with
  | true,true,true=>some (.agg (inL barI))
  | _,_,_=>none
 look:=fun _ _ _ _ _=>none
theorem bar_len:(flatC 8 (Rows.laid_firewall_harden_barrier:DataW Unit)).length=5:=by kernel_rfl
theorem bar_eq:mapLeaf (flatC 8 (Rows.laid_firewall_harden_barrier:DataW Unit))=inL barI:=by kernel_rfl
theorem glob_agg {P:Program} {w:World} {g T off:Nat} {inf:TypeInfo} (hi:P.info? T=some inf) (hA:isAggT P T=some true) (vs:List Value) (hn:vs.length=inf.size)
 (hc:∀ j v,vs[j]? =some v→w.cell? ⟨g,off + j,none⟩=some v):(loadVar T ⟨g,off,none⟩).run P w= .ok (.agg vs.toArray) w:=by
 have hl':=run_loadCells_list (P:=P) w ⟨g,off,none⟩ vs (fun j v hv=>by rw [addr_add];exact hc j v hv)
 rw [hn] at hl'
 simp [loadVar,isAgg_run hA,sizeOf_run hi,hl']
theorem Dbar_ok:DataOK Tryd.prog Gbar Dbar:=by
 refine ⟨fun w w' h hb=>⟨Nat.lt_of_lt_of_le h.1 hb.size,fun j hj=>by rw [World.cell?_of_block (w:=w) (hb.block _ h.1)];exact h.2 j hj⟩,fun T g off v h=> ?_,fun T ok g b key c v h=>by cases h⟩
 simp only [Dbar] at h
 split at h
 · rename_i h1 h2 h3
   obtain rfl:T=54:=by simpa using h1
   obtain rfl:g=gBar:=by simpa using h2
   obtain rfl:off=0:=by simpa using h3
   obtain rfl:=Option.some.inj h
   refine ⟨rfl,fun w hw=> ?_⟩
   obtain ⟨inf,hi,hs⟩:∃ inf,Tryd.prog.info? 54=some inf∧inf.size=5:=by
    cases hh:Tryd.prog.info? 54 with
    | none=>exact absurd hh (by have:(Tryd.prog.info? 54).isSome=true:=by kernel_rfl
                                intro e;rw [e] at this;cases this)
    | some inf=>
      refine ⟨inf,rfl,?_⟩
      have:(Tryd.prog.info? 54).map (·.size)=some 5:=by kernel_rfl
      rw [hh] at this;simpa using this
   refine ⟨_,glob_agg hi (by kernel_rfl) (flatC 8 (Rows.laid_firewall_harden_barrier:DataW Unit)) (by rw [bar_len,hs]) (fun j v hv=> ?_),fun ρ=>⟨_,rfl,?_⟩⟩
   · have hj:j<5:=by have:=(List.getElem?_eq_some_iff.1 hv).1;rw [bar_len] at this;exact this
     rw [Nat.zero_add,hw.2 j (by rw [bar_len];exact hj)]
     exact hv
   · rw [← bar_eq];exact mapLeaf_rel _
 · cases h
theorem Gbar_of {W:World} (h:laidMetH Tryd.prog [("firewall/harden.barrier",Rows.laid_firewall_harden_barrier)] W):Gbar W:=by
 rw [MakeChecks.laidMetH_plain _ _ _ (by kernel_rfl)] at h
 obtain ⟨ps,h,_⟩:=h
 obtain ⟨h1,q1,h⟩:=laid_flat (g:=gBar) (T:=54) (l:=[.int .u8,.int .u8,.int .u8,.int .i16,.int .i32]) h (by kernel_rfl) (by kernel_rfl) 8 (by kernel_rfl)
 have f0:=h1 0 (by rw [bar_len];decide)
 refine ⟨?_,h1⟩
 have:((flatC 8 (Rows.laid_firewall_harden_barrier:DataW Unit))[0]?).isSome=true:=by kernel_rfl
 cases hf:(flatC 8 (Rows.laid_firewall_harden_barrier:DataW Unit))[0]? with
 | none=>rw [hf] at this;cases this
 | some v=>
   rw [hf] at f0
   cases ho:W.heap[gBar]? with
   | none=>simp [World.cell?,ho] at f0
   | some o=>exact (Array.getElem?_eq_some_iff.1 ho).1
theorem may_jmp {o:BitVec 8} (h:mayB o=true):jmpB o=true:=by
 unfold mayB at h
 rw [Bool.and_eq_true] at h
 exact h.1
theorem may_first {x:IT} {n k:Nat} {m:BitVec 64} {w:Bool} (G:Good x n m w) (hk:k<n) (h:mayB (x k).o=true):hf x k=false:=by
 cases e:hf x k with
 | false=>rfl
 | true=>
   rw [(half_o G hk e).1] at h
   exact absurd h (by decide)
theorem tg_ok {x:IT} {n:Nat} {m:BitVec 64} {w:Bool} (G:Good x n m w):TgOK x n:=by
 intro k hk h
 obtain ⟨h1,_,h3,_⟩:=toV_lt G.ways hk (may_first G hk h) (may_jmp h)
 refine ⟨?_,by omega⟩
 have e0:(0#64).toInt=0:=rfl
 have:¬ ((toV x (bv k)).slt 0#64=true):=by rw [h3];decide
 rw [BitVec.slt_iff_toInt_lt,e0] at this
 omega
theorem jto_lt {x:IT} {n k:Nat} {m:BitVec 64} {w:Bool} (G:Good x n m w) (hk:k<n) (h:hf x k=false) (hj:jmpB (x k).o=true):0≤(toV x (bv k)).toInt∧(toV x (bv k)).toNat<n:=by
 obtain ⟨h1,_,h3,_⟩:=toV_lt G.ways hk h hj
 refine ⟨?_,h1⟩
 have e0:(0#64).toInt=0:=rfl
 have:¬ ((toV x (bv k)).slt 0#64=true):=by rw [h3];decide
 rw [BitVec.slt_iff_toInt_lt,e0] at this
 omega
end Go.Proofs.YthkgakelgdncjaaDoor
namespace Go.Proofs.YthkgakelgdncjaaDoor
open Go.Ep Go.RowKit
set_option linter.unusedVariables false
set_option linter.unusedSimpArgs false
theorem ok_G {P:Program} {G:World→Prop} {f:FuncId} {sp:Sp} (e:EntryOK P anyWorld f sp):EntryOK P G f sp:=
 ⟨e.fn,fun args c v h1 h2=>⟨(e.calls args c v h1 h2).1,fun us ρ hr w _=>(e.calls args c v h1 h2).2 us ρ hr w trivial⟩⟩
def sp_fen:Sp
 | []=>some (Cond.t,.one (.bool true))
 | _=>none
noncomputable abbrev ms_H:List (Nat×SpM):=[(23,spS 5 sq_half),(15,spS 5 sq_chk),(11,spS 5 sq_chk)]
noncomputable abbrev FSh:List (Nat×Func):=[(7,Tryd.f7),(8,Tryd.f8),(22,Tryd.f22),(9,Tryd.f9),(20,Tryd.f20),(21,Tryd.f21)]
theorem fs_h:FsOK Tryd.prog FSh:=FsOK.cons Tryd.func7 (by kernel_rfl) (by kernel_rfl) (FsOK.cons Tryd.func8 (by kernel_rfl) (by kernel_rfl) (FsOK.cons Tryd.func22 (by kernel_rfl) (by kernel_rfl) (FsOK.cons Tryd.func9 (by kernel_rfl) (by kernel_rfl) (FsOK.cons Tryd.func20 (by kernel_rfl) (by kernel_rfl) (FsOK.cons Tryd.func21 (by kernel_rfl) (by kernel_rfl) (FsOK.nil))))))
theorem slt_m {k m:Nat} (hm:m<65536) (h:k<m):(BitVec.ofNat 64 k).slt (BitVec.ofNat 64 m)=true:=by
 rw [slt_nat (by omega) (by omega)]
 exact decide_eq_true h
theorem slt_0 {k:Nat} (h:k<65536):(bv k).slt 0#64=false:=by
 have e:(0#64).toInt=0:=rfl
 rw [← Bool.not_eq_true,BitVec.slt_iff_toInt_lt,e,toInt_ofNat (by omega)]
 omega
theorem slt_rr (n:Nat):(BitVec.ofNat 64 n).slt (BitVec.ofNat 64 n)=false:=by
 rw [BitVec.slt_eq_decide]
 exact decide_eq_false (by omega)
theorem slt_t {k len:Nat} (hl:len≤64) (h:k<len):(BitVec.ofNat 64 k).slt (BitVec.ofNat 64 len)=true:=by
 rw [slt_nat (by omega) (by omega)]
 exact decide_eq_true h
theorem k_nat {k len ns:Nat} (hl:len≤64) (h:k≤len):(BitVec.ofNat 64 k).toNat=k∧k<65536:=⟨nat_ofNat (by omega),by omega⟩
theorem ix64 {k len:Nat} (hl:len≤64) (h:k<len):0≤(BitVec.ofNat 64 k).toInt∧(BitVec.ofNat 64 k).toNat<len:=by
 rw [toInt_ofNat (by omega),nat_ofNat (by omega)]
 omega
theorem ix65 {k len:Nat} (hl:len≤64) (h:k<len):0≤(BitVec.ofNat 64 k).toInt∧(BitVec.ofNat 64 k).toNat<len + 1:=by
 rw [toInt_ofNat (by omega),nat_ofNat (by omega)]
 omega
theorem ixs {k ns:Nat} (hn:ns<9223372036854775808) (hk:k<65536) (h:(BitVec.ofNat 64 k).slt (BitVec.ofNat 64 ns)=true):0≤(BitVec.ofNat 64 k).toInt∧(BitVec.ofNat 64 k).toNat<ns:=by
 rw [slt_nat (by omega) hn,decide_eq_true_eq] at h
 rw [toInt_ofNat (by omega),nat_ofNat (by omega)]
 omega
theorem lenO_b {b:Nat→Bool} {k len:Nat} (hl:len≤64) (h:k<len):lenO b k<9223372036854775808:=by have:=(lenO_le b k).2;omega
theorem lenO_c {b:Nat→Bool} {k:Nat} (hl:k≤64):lenO b k<9223372036854775808:=by have:=(lenO_le b k).2;omega
theorem lenO_m {b:Nat→Bool} {k:Nat} (hl:k≤64):lenO b k<65536:=by have:=(lenO_le b k).2;omega
theorem clipA {m:Nat} (h:m<65536):(0≤(BitVec.ofNat 64 m).toInt∧0≤(BitVec.ofNat 64 m).toInt)∧(BitVec.ofNat 64 m).toNat≤(BitVec.ofNat 64 m).toNat:=by
 rw [toInt_ofNat (by omega)]
 omega
theorem clipB {m:Nat} (h:m<65536):(BitVec.ofNat 64 m).toNat≤m:=by
 rw [nat_ofNat (by omega)]
 exact Nat.le_refl _
theorem l_b {k:Nat} (hl:k≤64):k<9223372036854775808:=by omega
theorem capA {b:Nat→Bool} {k len:Nat} (hl:len≤64) (h:k<len):lenO b k + 1<65536:=by have:=(lenO_le b k).2;omega
theorem capB {b:Nat→Bool} {k len:Nat} (hl:len≤64) (h:k<len):lenO b k + 1 + 1<65536:=by have:=(lenO_le b k).2;omega
def iF (f:Nat→BitVec 64):Nat→List PL:=fun j=>[PL.b64 true (f j)]
def stF (b:Nat→Bool) (k:Nat):Nat→BitVec 64:=fun j=>if j<k then bv (lenO b j) else 0#64
theorem st_start {b:Nat→Bool} {len:Nat} (hl:len≤8000):Blk.row 3 1 (BitVec.ofNat 64 len + 1#64).toNat (fun _=>[PL.b64 true 0#64])=Blk.row 3 1 (len + 1) (iF (stF b 0)):=by
 rw [l1_nat hl]
 rfl
theorem ixm {k m:Nat} (hm:m<65536) (h:k<m):0≤(BitVec.ofNat 64 k).toInt∧(BitVec.ofNat 64 k).toNat<m:=by
 rw [toInt_ofNat (by omega),nat_ofNat (by omega)]
 omega
theorem to65 {x:IT} {pc n:Nat} (np:(BitVec.ofNat 64 pc).toNat=pc) (h:0≤(toV x (bv pc)).toInt∧(toV x (bv pc)).toNat<n):0≤(bv pc + 1#64 + BitVec.signExtend 64 (x pc).f).toInt∧(bv pc + 1#64 + BitVec.signExtend 64 (x pc).f).toNat<n + 1:=by
 have e:bv pc + 1#64 + BitVec.signExtend 64 (x pc).f=toV x (bv pc):=toV_eq np
 rw [e]
 omega
theorem cn1 {x:IT} {b:Nat→Bool} {n t:Nat} (ef:frO b n t=BitVec.ofInt 64 (Int.negSucc 0)):condO x b n t=false:=by unfold condO;rw [ef];rfl
theorem cn2 {x:IT} {b:Nat→Bool} {n t pc:Nat} (ef:frO b n t=bv pc) (np:(bv pc).toNat=pc) (h:hf x pc=true):condO x b n t=false:=by unfold condO;rw [ef,np,h,Bool.not_true,Bool.false_and,Bool.and_false]
theorem cn3 {x:IT} {b:Nat→Bool} {n t pc:Nat} (ef:frO b n t=bv pc) (np:(bv pc).toNat=pc) (h:jmpB (x pc).o=false):condO x b n t=false:=by unfold condO;rw [ef,np,h,Bool.and_false,Bool.and_false]
theorem cn4 {x:IT} {b:Nat→Bool} {n t pc:Nat} (ef:frO b n t=bv pc) (np:(bv pc).toNat=pc) (n0:(bv pc).slt 0#64=false) (h1:hf x pc=false) (h:jmpB (x pc).o=true):condO x b n t=true:=by unfold condO;rw [ef,np,n0,h1,h];rfl
theorem o2N {x:IT} {b:Nat→Bool} {n t m:Nat} (hc:condO x b n t=false):Blk.row 54 5 m (inF (out2 x b n t))=Blk.row 54 5 m (inF (out2 x b n (t + 1))):=by rw [o2_no hc]
theorem o2Y {x:IT} {b:Nat→Bool} {n t m:Nat} {s:Nat→BitVec 64} (hs:∀ j,j<n→s j=bv (lenO b j)) (na:(BitVec.ofNat 64 t).toNat=t) (hc:condO x b n t=true) (ht:(toV x (frO b n t)).toNat<n) :
 Blk.row 54 5 m (updF (inF (out2 x b n t)) (BitVec.ofNat 64 t).toNat 3 [PL.b16 true (BitVec.signExtend 16 (s (frO b n (BitVec.ofNat 64 t).toNat + 1#64 + BitVec.signExtend 64 (x (frO b n (BitVec.ofNat 64 t).toNat).toNat).f).toNat - BitVec.ofNat 64 t - 1#64))])=Blk.row 54 5 m (inF (out2 x b n (t + 1))):=by
 rw [na,o2_yes hc,updF_in3]
 have e:s (frO b n t + 1#64 + BitVec.signExtend 64 (x (frO b n t).toNat).f).toNat=bv (lenO b (toV x (frO b n t)).toNat):=hs _ ht
 rw [e]
 rfl
section
variable {x : IT} {st : Nat → Bool} {ns k : Nat}
end
section
variable {x : IT} {b : Nat → Bool} {n t pc : Nat} (ef : frO b n t = bv pc) (np : (bv pc).toNat = pc)
include ef np
theorem cm2 (h:(!hf (inOf (inF x)) pc)=false):condO x b n t=false:=by
 have h':(!hf x pc)=false:=h
 exact cn2 ef np (by simpa using h')
variable {m : BitVec 64} {w : Bool} (G : Good x n m w) (gp : pc < n) (h1 : (!hf (inOf (inF x)) pc) = true)
include G gp h1
end
theorem st_val {b:Nat→Bool} {n:Nat}:∀ j,j<n→stF b n j=bv (lenO b j):=fun j h=>if_pos h
theorem bar_of {x:IT} {n ns k:Nat} {st:Nat→Bool} {b1 b2:Bool} (h1:behP x st ns k=b1) (h2:ledF x n k=b2):barB x n st ns k=(b1||b2):=by
 unfold barB
 rw [h1,h2]
theorem lnA {b:Nat→Bool} {k i:Nat} (h:b k=false):AV.one (.rsl i (lenO b k + 1))=AV.one (.rsl i (lenO b (k + 1))):=by
 have e:lenO b (k + 1)=lenO b k + 1:=by rw [lenO,h];rfl
 rw [e]
theorem lnB {b:Nat→Bool} {k i:Nat} (h:b k=true):AV.one (.rsl i (lenO b k + 1 + 1))=AV.one (.rsl i (lenO b (k + 1))):=by
 have e:lenO b (k + 1)=lenO b k + 2:=by rw [lenO,h];rfl
 rw [e]
theorem joinF_i (m:Nat) (f:Nat→BitVec 64) (v:BitVec 64):joinF m (iF f) (fun _=>[PL.b64 true v])=iF (appI f m v):=by
 funext j
 by_cases h:m≤j<;>simp [joinF,mergeP,pickP,iF,appI,h]
theorem updF_i (k:Nat) (f:Nat→BitVec 64) (v:BitVec 64):updF (iF f) k 0 [PL.b64 true v]=iF (fun j=>if j=k then v else f j):=by
 funext j
 by_cases h:j=k<;>simp [updF,mergeP,pickP,iF,h]
theorem frA {b:Nat→Bool} {k:Nat} (h:b k=false):Blk.row 3 1 (lenO b k + 1) (joinF (lenO b k) (iF (frO b k)) fun _=>[PL.b64 true (BitVec.ofNat 64 k)])=Blk.row 3 1 (lenO b (k + 1)) (iF (frO b (k + 1))):=by
 have e:lenO b (k + 1)=lenO b k + 1:=by rw [lenO,h];rfl
 have e2:frO b (k + 1)=appI (frO b k) (lenO b k) (bv k):=by rw [frO,h];rfl
 rw [e,e2,joinF_i]
theorem frB {b:Nat→Bool} {k:Nat} (h:b k=true):Blk.row 3 1 (lenO b k + 1 + 1) (joinF (lenO b k + 1) (joinF (lenO b k) (iF (frO b k)) fun _=>[PL.b64 true (BitVec.ofInt 64 (Int.negSucc 0))]) fun _=>[PL.b64 true (BitVec.ofNat 64 k)])=Blk.row 3 1 (lenO b (k + 1)) (iF (frO b (k + 1))):=by
 have e:lenO b (k + 1)=lenO b k + 2:=by rw [lenO,h];rfl
 have e2:frO b (k + 1)=appI (appI (frO b k) (lenO b k) (BitVec.ofInt 64 (Int.negSucc 0))) (lenO b k + 1) (bv k):=by rw [frO,h];rfl
 rw [e,e2,joinF_i,joinF_i]
theorem fr0A {b:Nat→Bool} (h:b 0=false):Blk.row 3 1 1 (fun _=>[PL.b64 true 0#64])=Blk.row 3 1 (lenO b (0 + 1)) (iF (frO b (0 + 1))):=by
 have e:lenO b (0 + 1)=1:=by rw [lenO,h];rfl
 have e2:frO b (0 + 1)=fun _=>0#64:=by rw [frO,h];exact app_zero _ _
 rw [e,e2]
 rfl
theorem fr0B {b:Nat→Bool} (h:b 0=true):Blk.row 3 1 (1 + 1) (joinF 1 (fun _=>[PL.b64 true (BitVec.ofInt 64 (Int.negSucc 0))]) fun _=>[PL.b64 true 0#64])=Blk.row 3 1 (lenO b (0 + 1)) (iF (frO b (0 + 1))):=by
 have e:lenO b (0 + 1)=2:=by rw [lenO,h];rfl
 have e2:frO b (0 + 1)=appI (fun _=>BitVec.ofInt 64 (Int.negSucc 0)) 1 0#64:=by rw [frO,h,if_pos rfl,show lenO b 0=0 from rfl,app_zero]
 rw [e,e2,← joinF_i]
 rfl
theorem outA {x:IT} {b:Nat→Bool} {k:Nat} (na:(BitVec.ofNat 64 k).toNat=k) (h:b k=false):Blk.row 54 5 (lenO b k + 1) (joinF (lenO b k) (inF (outO x b k)) fun _=>inP (x (BitVec.ofNat 64 k).toNat))=Blk.row 54 5 (lenO b (k + 1)) (inF (outO x b (k + 1))):=by
 have e:lenO b (k + 1)=lenO b k + 1:=by rw [lenO,h];rfl
 have e2:outO x b (k + 1)=appI (outO x b k) (lenO b k) (x k):=by rw [outO,h];rfl
 rw [e,e2,na,joinF_in]
 rfl
theorem outB {x:IT} {b:Nat→Bool} {k:Nat} (na:(BitVec.ofNat 64 k).toNat=k) (h:b k=true):Blk.row 54 5 (lenO b k + 1 + 1) (joinF (lenO b k + 1) (joinF (lenO b k) (inF (outO x b k)) fun _=>inP barI) fun _=>inP (x (BitVec.ofNat 64 k).toNat))=Blk.row 54 5 (lenO b (k + 1)) (inF (outO x b (k + 1))):=by
 have e:lenO b (k + 1)=lenO b k + 2:=by rw [lenO,h];rfl
 have e2:outO x b (k + 1)=appI (appI (outO x b k) (lenO b k) barI) (lenO b k + 1) (x k):=by rw [outO,h];rfl
 rw [e,e2,na,joinF_in,joinF_in]
 rfl
theorem out0A {x:IT} {b:Nat→Bool} (h:b 0=false):Blk.row 54 5 1 (fun _=>inP (x (0#64).toNat))=Blk.row 54 5 (lenO b (0 + 1)) (inF (outO x b (0 + 1))):=by
 have e:lenO b (0 + 1)=1:=by rw [lenO,h];rfl
 have e2:outO x b (0 + 1)=fun _=>x 0:=by rw [outO,h];exact app_zero _ _
 rw [e,e2]
 rfl
theorem out0B {x:IT} {b:Nat→Bool} (h:b 0=true):Blk.row 54 5 (1 + 1) (joinF 1 (fun _=>inP barI) fun _=>inP (x (0#64).toNat))=Blk.row 54 5 (lenO b (0 + 1)) (inF (outO x b (0 + 1))):=by
 have e:lenO b (0 + 1)=2:=by rw [lenO,h];rfl
 have e2:outO x b (0 + 1)=appI (fun _=>barI) 1 (x 0):=by rw [outO,h,if_pos rfl,show lenO b 0=0 from rfl,app_zero]
 rw [e,e2]
 have:=joinF_in 1 (fun _=>barI) (x 0)
 exact congrArg (Blk.row 54 5 2) this
theorem stS {b:Nat→Bool} {k n:Nat} (na:(BitVec.ofNat 64 k).toNat=k):Blk.row 3 1 n (updF (iF (stF b k)) (BitVec.ofNat 64 k).toNat 0 [PL.b64 true (BitVec.ofNat 64 (lenO b k))])=Blk.row 3 1 n (iF (stF b (k + 1))):=by
 rw [na,updF_i]
 congr 2
 funext j
 unfold stF
 by_cases e:j=k
 · subst e;rw [if_pos rfl,if_pos (by omega)]
 · rw [if_neg e]
   by_cases h:j<k
   · rw [if_pos h,if_pos (by omega)]
   · rw [if_neg h,if_neg (by omega)]
theorem hf_of {x:IT} {len k:Nat} (g:k<len):hfN x (len + 1) k=hf x k:=by
 unfold hfN
 rw [decide_eq_true (by omega),Bool.true_and]
theorem slt_of {k ns:Nat} {b:Bool} (hk:k<65536) (hn:ns<9223372036854775808) (h:(BitVec.ofNat 64 k).slt (BitVec.ofNat 64 ns)=b):decide (k<ns)=b:=by rw [← h,slt_nat (by omega) hn]
section
variable {x : IT} {st : Nat → Bool} {len ns k : Nat} (g : k < len) (hk : k < 65536) (hn : ns < 9223372036854775808)
include g
theorem be1 (h1:(!hfN x (len + 1) k)=true) (h2:mayB (x k).o=true):AV.one (.bool true)=AV.one (.bool (behP x st ns (k + 1))):=by
 rw [hf_of g] at h1
 rw [behP,behB,h1,h2];rfl
theorem be6 (h1:(!hfN x (len + 1) k)=false):AV.one (.bool false)=AV.one (.bool (behP x st ns (k + 1))):=by
 rw [hf_of g] at h1
 rw [behP,behB,h1];rfl
include hk hn
theorem be2 (h1:(!hfN x (len + 1) k)=true) (h2:mayB (x k).o=false) (h3:(BitVec.ofNat 64 k).slt (BitVec.ofNat 64 ns)=true) (h4:st k=true) (h5:((x k).o &&& 7#8==2#8)=true):AV.one (.bool true)=AV.one (.bool (behP x st ns (k + 1))):=by
 rw [hf_of g] at h1
 rw [behP,behB,h1,h2,slt_of hk hn h3,h4,stoB,h5];rfl
theorem be3 (h1:(!hfN x (len + 1) k)=true) (h2:mayB (x k).o=false) (h3:(BitVec.ofNat 64 k).slt (BitVec.ofNat 64 ns)=true) (h4:st k=true) (h5:((x k).o &&& 7#8==2#8)=false):AV.one (.bool ((x (BitVec.ofNat 64 k).toNat).o &&& 7#8==3#8))=AV.one (.bool (behP x st ns (k + 1))):=by
 rw [hf_of g] at h1
 rw [behP,behB,h1,h2,slt_of hk hn h3,h4,stoB,h5,nat_ofNat (by omega)];rfl
theorem be4 (h1:(!hfN x (len + 1) k)=true) (h2:mayB (x k).o=false) (h3:(BitVec.ofNat 64 k).slt (BitVec.ofNat 64 ns)=true) (h4:st k=false):AV.one (.bool false)=AV.one (.bool (behP x st ns (k + 1))):=by
 rw [hf_of g] at h1
 rw [behP,behB,h1,h2,slt_of hk hn h3,h4];rfl
theorem be5 (h1:(!hfN x (len + 1) k)=true) (h2:mayB (x k).o=false) (h3:(BitVec.ofNat 64 k).slt (BitVec.ofNat 64 ns)=false):AV.one (.bool false)=AV.one (.bool (behP x st ns (k + 1))):=by
 rw [hf_of g] at h1
 rw [behP,behB,h1,h2,slt_of hk hn h3];rfl
end
def posO (b:Nat→Bool) (k:Nat):Nat:=lenO b k + (if b k then 1 else 0)
theorem len_pos (b:Nat→Bool) (k:Nat):lenO b (k + 1)=posO b k + 1:=by
 unfold posO
 rw [lenO]
 cases b k<;>rfl
theorem pos_ge (b:Nat→Bool) (k:Nat):lenO b k≤posO b k:=Nat.le_add_right _ _
theorem len_mono (b:Nat→Bool) {k n:Nat} (h:k≤n):lenO b k≤lenO b n:=by
 induction h with
 | refl=>exact Nat.le_refl _
 | step _ ih=>exact Nat.le_trans ih (Nat.le_trans (Nat.le_trans (pos_ge b _) (Nat.le_succ _)) (Nat.le_of_eq (len_pos b _).symm))
theorem pos_lt (b:Nat→Bool) {k n:Nat} (h:k<n):posO b k<lenO b n:=by
 have h1:=len_mono b (show k + 1≤n from h)
 have h2:=len_pos b k
 omega
theorem len_lt (b:Nat→Bool) {k n:Nat} (h:k<n):lenO b k<lenO b n:=Nat.lt_of_le_of_lt (pos_ge b k) (pos_lt b h)
theorem pos_t {b:Nat→Bool} {k:Nat} (h:b k=true):posO b k=lenO b k + 1:=by unfold posO;rw [h];rfl
theorem pos_f {b:Nat→Bool} {k:Nat} (h:b k=false):posO b k=lenO b k:=by unfold posO;rw [h];rfl
theorem place (b:Nat→Bool):∀ n t,t<lenO b n→∃ k,k<n∧((b k=true∧t=lenO b k)∨t=posO b k)
 | 0,t,h=>absurd h (Nat.not_lt_zero _)
 | n + 1,t,h=>by
   rcases Nat.lt_or_ge t (lenO b n) with g | g
   · obtain ⟨k,h1,h2⟩:=place b n t g
     exact ⟨k,by omega,h2⟩
   · refine ⟨n,Nat.lt_succ_self n,?_⟩
     have hp:=len_pos b n
     cases hb:b n with
     | false=>have:=pos_f hb;exact .inr (by omega)
     | true=>
       have:=pos_t hb
       rcases (by omega:t=lenO b n∨t=posO b n) with e | e
       · exact .inl ⟨rfl,e⟩
       · exact .inr e
theorem outO_pos (x:IT) (b:Nat→Bool):∀ n k,k<n→outO x b n (posO b k)=x k
 | 0,k,h=>absurd h (Nat.not_lt_zero _)
 | n + 1,k,h=>by
   rcases Nat.lt_or_ge k n with g | g
   · have hp:=pos_lt b g
     rw [outO]
     cases hb:b n with
     | false=>
       show appI (outO x b n) (lenO b n) (x n) (posO b k)=x k
       unfold appI;rw [if_neg (by omega)];exact outO_pos x b n k g
     | true=>
       show appI (appI (outO x b n) (lenO b n) barI) (lenO b n + 1) (x n) (posO b k)=x k
       unfold appI;rw [if_neg (by omega),if_neg (by omega)];exact outO_pos x b n k g
   · obtain rfl:k=n:=by omega
     rw [outO]
     cases hb:b k with
     | false=>
       show appI (outO x b k) (lenO b k) (x k) (posO b k)=x k
       unfold appI;rw [if_pos (pos_ge b k)]
     | true=>
       show appI (appI (outO x b k) (lenO b k) barI) (lenO b k + 1) (x k) (posO b k)=x k
       unfold appI;rw [if_pos (Nat.le_of_eq (pos_t hb).symm)]
theorem outO_bar (x:IT) (b:Nat→Bool):∀ n k,k<n→b k=true→outO x b n (lenO b k)=barI
 | 0,k,h,_=>absurd h (Nat.not_lt_zero _)
 | n + 1,k,h,hk=>by
   rcases Nat.lt_or_ge k n with g | g
   · have hp:=len_lt b g
     rw [outO]
     cases hb:b n with
     | false=>
       show appI (outO x b n) (lenO b n) (x n) (lenO b k)=barI
       unfold appI;rw [if_neg (by omega)];exact outO_bar x b n k g hk
     | true=>
       show appI (appI (outO x b n) (lenO b n) barI) (lenO b n + 1) (x n) (lenO b k)=barI
       unfold appI;rw [if_neg (by omega),if_neg (by omega)];exact outO_bar x b n k g hk
   · obtain rfl:k=n:=by omega
     rw [outO,hk]
     show appI (appI (outO x b k) (lenO b k) barI) (lenO b k + 1) (x k) (lenO b k)=barI
     unfold appI;rw [if_neg (by omega),if_pos (Nat.le_refl _)]
theorem frO_pos (b:Nat→Bool):∀ n k,k<n→frO b n (posO b k)=bv k
 | 0,k,h=>absurd h (Nat.not_lt_zero _)
 | n + 1,k,h=>by
   rcases Nat.lt_or_ge k n with g | g
   · have hp:=pos_lt b g
     rw [frO]
     cases hb:b n with
     | false=>
       show appI (frO b n) (lenO b n) (bv n) (posO b k)=bv k
       unfold appI;rw [if_neg (by omega)];exact frO_pos b n k g
     | true=>
       show appI (appI (frO b n) (lenO b n) _) (lenO b n + 1) (bv n) (posO b k)=bv k
       unfold appI;rw [if_neg (by omega),if_neg (by omega)];exact frO_pos b n k g
   · obtain rfl:k=n:=by omega
     rw [frO]
     cases hb:b k with
     | false=>
       show appI (frO b k) (lenO b k) (bv k) (posO b k)=bv k
       unfold appI;rw [if_pos (pos_ge b k)]
     | true=>
       show appI (appI (frO b k) (lenO b k) _) (lenO b k + 1) (bv k) (posO b k)=bv k
       unfold appI;rw [if_pos (Nat.le_of_eq (pos_t hb).symm)]
theorem frO_bar (b:Nat→Bool):∀ n k,k<n→b k=true→frO b n (lenO b k)=BitVec.ofInt 64 (Int.negSucc 0)
 | 0,k,h,_=>absurd h (Nat.not_lt_zero _)
 | n + 1,k,h,hk=>by
   rcases Nat.lt_or_ge k n with g | g
   · have hp:=len_lt b g
     rw [frO]
     cases hb:b n with
     | false=>
       show appI (frO b n) (lenO b n) (bv n) (lenO b k)=_
       unfold appI;rw [if_neg (by omega)];exact frO_bar b n k g hk
     | true=>
       show appI (appI (frO b n) (lenO b n) _) (lenO b n + 1) (bv n) (lenO b k)=_
       unfold appI;rw [if_neg (by omega),if_neg (by omega)];exact frO_bar b n k g hk
   · obtain rfl:k=n:=by omega
     rw [frO,hk]
     show appI (appI (frO b k) (lenO b k) _) (lenO b k + 1) (bv k) (lenO b k)=_
     unfold appI;rw [if_neg (by omega),if_pos (Nat.le_refl _)]
theorem out2_at (x:IT) (b:Nat→Bool) (n:Nat):∀ m t,out2 x b n m t=if t<m∧condO x b n t=true then { outO x b n t with f:=valO x b n t } else outO x b n t
 | 0,t=>by rw [if_neg (by omega)];rfl
 | m + 1,t=>by
   have ih:=out2_at x b n m
   cases hc:condO x b n m with
   | false=>
     rw [o2_no hc,ih]
     by_cases e:t<m
     · by_cases e2:condO x b n t=true
       · rw [if_pos ⟨e,e2⟩,if_pos ⟨by omega,e2⟩]
       · rw [if_neg (fun h=>e2 h.2),if_neg (fun h=>e2 h.2)]
     · rw [if_neg (fun h=>e h.1)]
       by_cases e2:t=m
       · subst e2;rw [if_neg (fun h=>by rw [hc] at h;exact absurd h.2 (by decide))]
       · rw [if_neg (fun h=>by omega)]
   | true=>
     rw [o2_yes hc]
     show (if t=m then { out2 x b n m m with f:=valO x b n m } else out2 x b n m t)=_
     by_cases e2:t=m
     · subst e2
       rw [if_pos rfl,if_pos ⟨by omega,hc⟩,ih,if_neg (fun h=>by omega)]
     · rw [if_neg e2,ih]
       by_cases e:t<m∧condO x b n t=true
       · rw [if_pos e,if_pos ⟨by omega,e.2⟩]
       · rw [if_neg e,if_neg (fun h=>e ⟨by omega,h.2⟩)]
def lastV (y:IT) (f:Nat→BitVec 64):Nat→BitVec 64
 | 0=>BitVec.ofInt 64 (Int.negSucc 0)
 | t + 1=>if (y t).o==194#8 then lastV y f t else f t
section
variable {x : IT} {n ns : Nat} {st : Nat → Bool} {m : BitVec 64} (G : Good x n m false)
include G
theorem bar_half {k:Nat} (hk:k<n) (h:hf x k=true):barB x n st ns k=false:=by
 have W:=G.ways
 have h1:ledF x n k=false:=ledF_none fun i hi c=>by
  have:=toV_lt W hi (may_first G hi c.1) (may_jmp c.1)
  rw [c.2,h] at this
  exact absurd this.2.1 (by decide)
 have h2:behP x st ns k=false:=by
  cases k with
  | zero=>rfl
  | succ k=>
    rw [hf,Bool.and_eq_true,beq_iff_eq] at h
    rw [behP,behB,h.2]
    show (!hf x k&&(mayB 24#8||(decide (k<ns)&&(st k&&stoB 24#8))))=false
    rw [show mayB 24#8=false by decide,show stoB 24#8=false by decide,Bool.and_false,Bool.and_false,Bool.or_false,Bool.and_false]
 unfold barB
 rw [h1,h2];rfl
theorem bar_first {k:Nat} (hk:k<n) (h:barB x n st ns k=true):hf x k=false:=by
 cases e:hf x k with
 | false=>rfl
 | true=>rw [bar_half G hk e] at h;exact absurd h (by decide)
end
theorem fO_jmp (o:BitVec 8) (w:Bool) (h:jmpB o=true) (hk:fK o w=true):fO o=true:=by
 have key:∀ o:BitVec 8,(!jmpB o||fO o)=true:=all8 (p:=fun o=> !jmpB o||fO o) (by decide +kernel)
 have:=key o
 rw [h] at this
 simpa using this
theorem iCheck_f {o d s:BitVec 8} {f f':BitVec 16} {i:BitVec 32} {w:Bool} (hj:jmpB o=true) (h:iCheck o d s f i w=0#64):iCheck o d s f' i w=0#64:=by
 have hk:fK o w=true:=by
  cases e:fK o w with
  | true=>rfl
  | false=>
    unfold iCheck at h
    rw [e] at h
    have h':20#64=0#64:=h
    exact absurd h' (by decide)
 have hO:=fO_jmp o w hj hk
 unfold iCheck at h ⊢
 rw [hO] at h ⊢
 exact h
theorem iCheck_t {o d s:BitVec 8} {f:BitVec 16} {i:BitVec 32} (h:iCheck o d s f i false=0#64):iCheck o d s f i true=0#64:=by
 rw [iCheck_more _ _ _ _ _ (by rw [h];decide),h]
theorem back64 {a p:Nat} (ha:a≤192) (hp:p≤192):bv p + 1#64 + BitVec.signExtend 64 (BitVec.signExtend 16 (bv a - bv p - 1#64))=bv a:=by
 have e:BitVec.signExtend 64 (BitVec.signExtend 16 (bv a - bv p - 1#64))=bv a - bv p - 1#64:=by
  have t1:(bv a - bv p - 1#64).toInt=(a:Int) - p - 1:=by
   rw [BitVec.toInt_sub,BitVec.toInt_sub,toInt_ofNat (by omega),toInt_ofNat (by omega),show (1#64).toInt=1 from rfl,Int.bmod_eq_of_le (n:=(a:Int) - p) (by omega) (by omega),Int.bmod_eq_of_le (by omega) (by omega)]
  have t3:(BitVec.ofInt 16 ((a:Int) - p - 1)).toInt=(a:Int) - p - 1:=by
   rw [BitVec.toInt_ofInt];exact Int.bmod_eq_of_le (by omega) (by omega)
  rw [show BitVec.signExtend 16 (bv a - bv p - 1#64)=BitVec.ofInt 16 ((a:Int) - p - 1) by rw [BitVec.signExtend,t1],BitVec.signExtend,t3,← t1,BitVec.ofInt_toInt]
 rw [e]
 rw [BitVec.sub_sub,BitVec.add_comm,BitVec.sub_add_cancel]
section
variable {x : IT} {n ns : Nat} {st : Nat → Bool} {m : BitVec 64} (G : Good x n m false)
include G
theorem n64:n≤64:=G.most
theorem N_le:(lenO (barB x n st ns) n)≤128:=by have:=(lenO_le (barB x n st ns) n).2;have:=n64 G;omega
theorem N_pos:0<(lenO (barB x n st ns) n):=by have:=(lenO_le (barB x n st ns) n).1;have:=G.pos;omega
theorem y_bar {k:Nat} (hk:k<n) (hb:(barB x n st ns) k=true):(out2 x (barB x n st ns) n (lenO (barB x n st ns) n)) (lenO (barB x n st ns) k)=barI:=by
 have _:=G.pos
 rw [out2_at,cn1 (frO_bar (barB x n st ns) n k hk hb),if_neg (fun h=>absurd h.2 (by decide)),outO_bar x (barB x n st ns) n k hk hb]
theorem y_same {k:Nat} (hk:k<n) (h:hf x k=true∨jmpB (x k).o=false):(out2 x (barB x n st ns) n (lenO (barB x n st ns) n)) (posO (barB x n st ns) k)=x k:=by
 have np:(bv k).toNat=k:=nat_ofNat (by have:=n64 G;omega)
 have hc:condO x (barB x n st ns) n (posO (barB x n st ns) k)=false:=by
  rcases h with h | h
  · exact cn2 (frO_pos (barB x n st ns) n k hk) np h
  · exact cn3 (frO_pos (barB x n st ns) n k hk) np h
 rw [out2_at,hc,if_neg (fun h=>absurd h.2 (by decide)),outO_pos x (barB x n st ns) n k hk]
theorem y_jmp {k:Nat} (hk:k<n) (h:hf x k=false) (hj:jmpB (x k).o=true):(out2 x (barB x n st ns) n (lenO (barB x n st ns) n)) (posO (barB x n st ns) k)={ x k with f:=valO x (barB x n st ns) n (posO (barB x n st ns) k) }:=by
 have np:(bv k).toNat=k:=nat_ofNat (by have:=n64 G;omega)
 have hc:condO x (barB x n st ns) n (posO (barB x n st ns) k)=true:=cn4 (frO_pos (barB x n st ns) n k hk) np (slt_0 (by have:=n64 G;omega)) h hj
 rw [out2_at,if_pos ⟨pos_lt (barB x n st ns) hk,hc⟩,outO_pos x (barB x n st ns) n k hk]
theorem y_o {k:Nat} (hk:k<n):((out2 x (barB x n st ns) n (lenO (barB x n st ns) n)) (posO (barB x n st ns) k)).o=(x k).o∧((out2 x (barB x n st ns) n (lenO (barB x n st ns) n)) (posO (barB x n st ns) k)).d=(x k).d∧((out2 x (barB x n st ns) n (lenO (barB x n st ns) n)) (posO (barB x n st ns) k)).s=(x k).s∧((out2 x (barB x n st ns) n (lenO (barB x n st ns) n)) (posO (barB x n st ns) k)).i=(x k).i:=by
 cases h:hf x k with
 | true=>rw [y_same G hk (.inl h)];exact ⟨rfl,rfl,rfl,rfl⟩
 | false=>
   cases hj:jmpB (x k).o with
   | false=>rw [y_same G hk (.inr hj)];exact ⟨rfl,rfl,rfl,rfl⟩
   | true=>rw [y_jmp G hk h hj];exact ⟨rfl,rfl,rfl,rfl⟩
theorem hf_y:∀ k,k≤n→hf (out2 x (barB x n st ns) n (lenO (barB x n st ns) n)) (lenO (barB x n st ns) k)=hf x k
 | 0,_=>rfl
 | k + 1,hk=>by
   have ih:=hf_y k (by omega)
   have h2:hf (out2 x (barB x n st ns) n (lenO (barB x n st ns) n)) (posO (barB x n st ns) k)=hf x k:=by
    cases hb:(barB x n st ns) k with
    | false=>rw [pos_f hb];exact ih
    | true=>
      have h0:=bar_first G (by omega) hb
      rw [pos_t hb,hf,y_bar G (by omega) hb,h0]
      show (!_&&(194#8==24#8))=false
      rw [show (194#8==24#8)=false by decide,Bool.and_false]
   rw [len_pos,hf,hf,h2,(y_o G (by omega)).1]
theorem hf_p {k:Nat} (hk:k<n):hf (out2 x (barB x n st ns) n (lenO (barB x n st ns) n)) (posO (barB x n st ns) k)=hf x k:=by
 cases hb:(barB x n st ns) k with
 | false=>rw [pos_f hb];exact hf_y G k (by omega)
 | true=>
   have h0:=bar_first G hk hb
   rw [pos_t hb,hf,y_bar G hk hb,h0]
   show (!_&&(194#8==24#8))=false
   rw [show (194#8==24#8)=false by decide,Bool.and_false]
theorem toV_y {k:Nat} (hk:k<n) (h:hf x k=false) (hj:jmpB (x k).o=true):toV (out2 x (barB x n st ns) n (lenO (barB x n st ns) n)) (bv (posO (barB x n st ns) k))=bv (lenO (barB x n st ns) (toV x (bv k)).toNat):=by
 have hN:=N_le (st:=st) (ns:=ns) G
 have hp:=pos_lt (barB x n st ns) hk
 have np:(bv (posO (barB x n st ns) k)).toNat=posO (barB x n st ns) k:=nat_ofNat (by omega)
 have nk:(bv k).toNat=k:=nat_ofNat (by have:=n64 G;omega)
 have ht:=toV_lt G.ways hk h hj
 have hl:=len_lt (barB x n st ns) ht.1
 unfold toV
 rw [np,y_jmp G hk h hj]
 show bv (posO (barB x n st ns) k) + 1#64 + BitVec.signExtend 64 (valO x (barB x n st ns) n (posO (barB x n st ns) k))=_
 unfold valO
 rw [frO_pos (barB x n st ns) n k hk]
 exact back64 (by omega) (by omega)
theorem alone_y {k:Nat} (hk:k<n) (h:hf x k=false):aloneE (out2 x (barB x n st ns) n (lenO (barB x n st ns) n)) (lenO (barB x n st ns) n) (bv (posO (barB x n st ns) k)) m true=0#64:=by
 have hN:=N_le (st:=st) (ns:=ns) G
 have h64:=n64 G
 have hp:=pos_lt (barB x n st ns) hk
 have np:(bv (posO (barB x n st ns) k)).toNat=posO (barB x n st ns) k:=nat_ofNat (by omega)
 have nk:(bv k).toNat=k:=nat_ofNat (by omega)
 have ha:=G.alone k hk h
 have hi:=alone_i (by omega) ha
 obtain ⟨eo,ed,es,ei⟩:=y_o (st:=st) (ns:=ns) G hk
 have hi2:iCheck ((out2 x (barB x n st ns) n (lenO (barB x n st ns) n)) (posO (barB x n st ns) k)).o ((out2 x (barB x n st ns) n (lenO (barB x n st ns) n)) (posO (barB x n st ns) k)).d ((out2 x (barB x n st ns) n (lenO (barB x n st ns) n)) (posO (barB x n st ns) k)).s ((out2 x (barB x n st ns) n (lenO (barB x n st ns) n)) (posO (barB x n st ns) k)).f ((out2 x (barB x n st ns) n (lenO (barB x n st ns) n)) (posO (barB x n st ns) k)).i true=0#64:=by
  rw [eo,ed,es,ei]
  cases hj:jmpB (x k).o with
  | true=>exact iCheck_f hj (iCheck_t hi)
  | false=>rw [y_same G hk (.inr hj)];exact iCheck_t hi
 unfold aloneE at ha ⊢
 rw [nk,hi] at ha
 rw [np,hi2]
 rw [if_neg (by decide)] at ha ⊢
 rw [eo,ei,es]
 by_cases e1:((x k).o==133#8)=true
 · rw [if_pos e1] at ha ⊢;exact ha
 · rw [if_neg e1] at ha ⊢
   by_cases e2:((x k).o==24#8)=true
   · rw [if_pos e2] at ha ⊢
     have e3:(x k).o=24#8:=eq_of_beq e2
     have hh:hf x (k + 1)=true:=by rw [hf,h,e2];rfl
     have hf1:=fall_lt G.ways hk h (by rw [e3];decide) (by rw [e3];decide)
     have hz:szN (x k).o=2:=by rw [e3];decide
     rw [hz] at hf1
     have hb1:=bar_half (st:=st) (ns:=ns) G (show k + 1<n by omega) hh
     have hq:posO (barB x n st ns) (k + 1)=posO (barB x n st ns) k + 1:=by rw [pos_f hb1,len_pos]
     have hq2:=pos_lt (barB x n st ns) (show k + 1<n by omega)
     have a1:bv (posO (barB x n st ns) k) + 1#64=bv (posO (barB x n st ns) (k + 1)):=by rw [hq];exact (BitVec.ofNat_add _ _).symm
     have a2:bv k + 1#64=bv (k + 1):=(BitVec.ofNat_add _ _).symm
     have n1:(bv (posO (barB x n st ns) (k + 1))).toNat=posO (barB x n st ns) (k + 1):=nat_ofNat (by omega)
     have n2:(bv (k + 1)).toNat=k + 1:=nat_ofNat (by omega)
     have l1:(BitVec.ofNat 64 (lenO (barB x n st ns) n)).sle (bv (posO (barB x n st ns) (k + 1)))=false:=(sle_nat (by omega) (by omega)).trans (decide_eq_false (by omega))
     have l2:(BitVec.ofNat 64 n).sle (bv (k + 1))=false:=(sle_nat (by omega) (by omega)).trans (decide_eq_false (by omega))
     rw [a2,n2,l2] at ha
     rw [a1,n1,l1,y_same G (show k + 1<n by omega) (.inl hh)]
     exact ha
   · rw [if_neg e2]
theorem alone_b {k:Nat} (hk:k<n) (hb:(barB x n st ns) k=true):aloneE (out2 x (barB x n st ns) n (lenO (barB x n st ns) n)) (lenO (barB x n st ns) n) (bv (lenO (barB x n st ns) k)) m true=0#64:=by
 have hN:=N_le (st:=st) (ns:=ns) G
 have hp:=len_lt (barB x n st ns) hk
 have np:(bv (lenO (barB x n st ns) k)).toNat=lenO (barB x n st ns) k:=nat_ofNat (by omega)
 unfold aloneE
 rw [np,y_bar G hk hb]
 rfl
theorem way_y {k:Nat} (hk:k<n) (h:hf x k=false):wayE (out2 x (barB x n st ns) n (lenO (barB x n st ns) n)) (lenO (barB x n st ns) n) (bv (posO (barB x n st ns) k))=0#64:=by
 have hN:=N_le (st:=st) (ns:=ns) G
 have h64:=n64 G
 have hp:=pos_lt (barB x n st ns) hk
 have np:(bv (posO (barB x n st ns) k)).toNat=posO (barB x n st ns) k:=nat_ofNat (by omega)
 obtain ⟨eo,-,-,-⟩:=y_o (st:=st) (ns:=ns) G hk
 unfold wayE
 rw [np,eo]
 have fall:∀ (he:endB (x k).o=false) (ha:alwB (x k).o=false),(BitVec.ofNat 64 (lenO (barB x n st ns) n)).sle (bv (posO (barB x n st ns) k) + szV (x k).o)=false:=fun he ha=>by
  have hl:=fall_lt G.ways hk h he ha
  have e:bv (posO (barB x n st ns) k) + szV (x k).o=bv (posO (barB x n st ns) k + szN (x k).o):=by rw [szV_nat];exact (BitVec.ofNat_add _ _).symm
  have hs:posO (barB x n st ns) k + szN (x k).o<(lenO (barB x n st ns) n):=by
   unfold szN at hl ⊢
   split at hl
   · rename_i e2
     rw [if_pos e2]
     have hh:hf x (k + 1)=true:=by rw [hf,h,e2];rfl
     have hb1:=bar_half (st:=st) (ns:=ns) G (show k + 1<n by omega) hh
     have hq:posO (barB x n st ns) (k + 1)=posO (barB x n st ns) k + 1:=by rw [pos_f hb1,len_pos]
     have:=len_pos (barB x n st ns) (k + 1)
     have:=len_lt (barB x n st ns) (show k + 1 + 1<n from hl)
     omega
   · rename_i e2
     rw [if_neg e2]
     have:=len_pos (barB x n st ns) k
     have:=len_lt (barB x n st ns) (show k + 1<n from hl)
     omega
  rw [e]
  exact (sle_nat (by omega) (by omega)).trans (decide_eq_false (by omega))
 have tail:(if !endB (x k).o&&(!alwB (x k).o&&(BitVec.ofNat 64 (lenO (barB x n st ns) n)).sle (bv (posO (barB x n st ns) k) + szV (x k).o)) then 43#64 else 0#64)=0#64:=by
  cases he:endB (x k).o with
  | true=>rfl
  | false=>
    cases ha:alwB (x k).o with
    | true=>rfl
    | false=>rw [fall he ha];rfl
 cases hj:jmpB (x k).o with
 | false=>rw [Bool.false_and,Bool.false_and,if_neg (by decide),if_neg (by decide)];exact tail
 | true=>
   have ht:=toV_lt G.ways hk h hj
   have hl:=len_lt (barB x n st ns) ht.1
   have nt:(bv (lenO (barB x n st ns) (toV x (bv k)).toNat)).toNat=lenO (barB x n st ns) (toV x (bv k)).toNat:=nat_ofNat (by omega)
   rw [toV_y G hk h hj,nt,hf_y G _ (by omega),ht.2.1,(sle_nat (by omega) (by omega)).trans (decide_eq_false (by omega)),slt_0 (by omega)]
   exact tail
theorem way_b {k:Nat} (hk:k<n) (hb:(barB x n st ns) k=true):wayE (out2 x (barB x n st ns) n (lenO (barB x n st ns) n)) (lenO (barB x n st ns) n) (bv (lenO (barB x n st ns) k))=0#64:=by
 have hN:=N_le (st:=st) (ns:=ns) G
 have hp:=pos_lt (barB x n st ns) hk
 have hq:=pos_t hb
 have np:(bv (lenO (barB x n st ns) k)).toNat=lenO (barB x n st ns) k:=nat_ofNat (by omega)
 unfold wayE
 rw [np,y_bar G hk hb]
 have e:bv (lenO (barB x n st ns) k) + szV barI.o=bv (lenO (barB x n st ns) k + 1):=(BitVec.ofNat_add _ _).symm
 rw [e,(sle_nat (by omega) (by omega)).trans (decide_eq_false (by omega))]
 rfl
theorem succ_b {k:Nat} (hk:k<n) (hb:(barB x n st ns) k=true):succ (out2 x (barB x n st ns) n (lenO (barB x n st ns) n)) (lenO (barB x n st ns) k)=[posO (barB x n st ns) k]:=by
 unfold succ
 rw [y_bar G hk hb,pos_t hb]
 rfl
theorem succ_y {k q:Nat} (hk:k<n) (h:hf x k=false) (hq:q∈succ x k):lenO (barB x n st ns) q∈succ (out2 x (barB x n st ns) n (lenO (barB x n st ns) n)) (posO (barB x n st ns) k):=by
 have hN:=N_le (st:=st) (ns:=ns) G
 have h64:=n64 G
 obtain ⟨eo,-,-,-⟩:=y_o (st:=st) (ns:=ns) G hk
 unfold succ at hq ⊢
 rw [eo]
 have jmp:∀ hj:jmpB (x k).o=true,(toV (out2 x (barB x n st ns) n (lenO (barB x n st ns) n)) (bv (posO (barB x n st ns) k))).toNat=lenO (barB x n st ns) (toV x (bv k)).toNat:=fun hj=>by
  have ht:=toV_lt G.ways hk h hj
  have hl:=len_lt (barB x n st ns) ht.1
  rw [toV_y G hk h hj]
  exact nat_ofNat (by omega)
 have fall:∀ (he:endB (x k).o=false) (ha:alwB (x k).o=false),posO (barB x n st ns) k + szN (x k).o=lenO (barB x n st ns) (k + szN (x k).o):=fun he ha=>by
  have hl:=fall_lt G.ways hk h he ha
  unfold szN at hl ⊢
  split at hl
  · rename_i e2
    rw [if_pos e2]
    have hh:hf x (k + 1)=true:=by rw [hf,h,e2];rfl
    have hb1:=bar_half (st:=st) (ns:=ns) G (show k + 1<n by omega) hh
    have hq:posO (barB x n st ns) (k + 1)=posO (barB x n st ns) k + 1:=by rw [pos_f hb1,len_pos]
    have:=len_pos (barB x n st ns) (k + 1)
    show posO (barB x n st ns) k + 2=lenO (barB x n st ns) (k + 1 + 1)
    omega
  · rename_i e2
    rw [if_neg e2]
    exact (len_pos (barB x n st ns) k).symm
 cases he:endB (x k).o with
 | true=>rw [he,if_pos rfl] at hq;cases hq
 | false=>
   rw [he,if_neg (by decide)] at hq
   rw [if_neg (by decide)]
   cases ha:alwB (x k).o with
   | true=>
     rw [ha,if_pos rfl] at hq
     rw [if_pos rfl]
     have hj:jmpB (x k).o=true:=by simp only [alwB,Bool.and_eq_true] at ha;exact ha.1
     obtain rfl:=List.mem_singleton.1 hq
     rw [jmp hj];exact List.mem_singleton.2 rfl
   | false=>
     rw [ha,if_neg (by decide)] at hq
     rw [if_neg (by decide)]
     cases hj:jmpB (x k).o with
     | true=>
       rw [hj,if_pos rfl] at hq
       rw [if_pos rfl,jmp hj,fall he ha]
       rcases List.mem_cons.1 hq with rfl | hq
       · exact List.mem_cons_self
       · obtain rfl:=List.mem_singleton.1 hq
         exact List.mem_cons_of_mem _ (List.mem_singleton.2 rfl)
     | false=>
       rw [hj,if_neg (by decide)] at hq
       rw [if_neg (by decide),fall he ha]
       obtain rfl:=List.mem_singleton.1 hq
       exact List.mem_singleton.2 rfl
theorem reach_p {k:Nat} (hk:k<n) (h:Reach (out2 x (barB x n st ns) n (lenO (barB x n st ns) n)) (lenO (barB x n st ns) k)):Reach (out2 x (barB x n st ns) n (lenO (barB x n st ns) n)) (posO (barB x n st ns) k):=by
 cases hb:(barB x n st ns) k with
 | false=>rw [pos_f hb];exact h
 | true=>exact .step h (by rw [succ_b G hk hb];exact List.mem_singleton.2 rfl)
theorem reach_y {k:Nat} (h:Reach x k):Reach (out2 x (barB x n st ns) n (lenO (barB x n st ns) n)) (lenO (barB x n st ns) k):=by
 induction h with
 | zero=>exact .zero
 | step hp hq ih=>
   have hr:=reach_lt G.ways G.pos hp
   exact .step (reach_p G hr.1 ih) (succ_y G hr.1 hr.2 hq)
theorem chk_y:chk4 (out2 x (barB x n st ns) n (lenO (barB x n st ns) n)) (lenO (barB x n st ns) n) m true=(0#64,0#64):=by
 have hN:=N_le (st:=st) (ns:=ns) G
 have h0:=N_pos (st:=st) (ns:=ns) G
 have hA:∀ t,t<(lenO (barB x n st ns) n)→badA (out2 x (barB x n st ns) n (lenO (barB x n st ns) n)) (lenO (barB x n st ns) n) m true t=false:=fun t ht=>by
  obtain ⟨k,hk,⟨hb,rfl⟩ | rfl⟩:=place (barB x n st ns) n t ht
  · unfold badA;rw [alone_b G hk hb];simp
  · unfold badA
    rw [hf_p G hk]
    cases h:hf x k with
    | true=>rfl
    | false=>rw [alone_y G hk h];rfl
 have hW:∀ t,t<(lenO (barB x n st ns) n)→badW (out2 x (barB x n st ns) n (lenO (barB x n st ns) n)) (lenO (barB x n st ns) n) t=false:=fun t ht=>by
  obtain ⟨k,hk,⟨hb,rfl⟩ | rfl⟩:=place (barB x n st ns) n t ht
  · unfold badW;rw [way_b G hk hb];simp
  · unfold badW
    rw [hf_p G hk]
    cases h:hf x k with
    | true=>rfl
    | false=>rw [way_y G hk h];rfl
 have hR:∀ t,t<(lenO (barB x n st ns) n)→(!hf (out2 x (barB x n st ns) n (lenO (barB x n st ns) n)) t&& !reachB (out2 x (barB x n st ns) n (lenO (barB x n st ns) n)) t)=false:=fun t ht=>by
  obtain ⟨k,hk,⟨hb,rfl⟩ | rfl⟩:=place (barB x n st ns) n t ht
  · have hr:=(reachB_iff x k).1 (G.led k hk (bar_first G hk hb))
    rw [(reachB_iff _ _).2 (reach_y G hr)];simp
  · rw [hf_p G hk]
    cases h:hf x k with
    | true=>rfl
    | false=>
      have hr:=(reachB_iff x k).1 (G.led k hk h)
      rw [(reachB_iff _ _).2 (reach_p G hk (reach_y G hr))];rfl
 unfold chk4
 rw [if_neg (by have:mostN true=192:=rfl
                omega),fstN_none hA,fstN_none hW,fstN_none hR]
theorem good_y:Good (out2 x (barB x n st ns) n (lenO (barB x n st ns) n)) (lenO (barB x n st ns) n) m true:=good_of (by rw [chk_y G])
theorem out_3:((3#64*BitVec.ofNat 64 n).slt (BitVec.ofNat 64 (lenO (barB x n st ns) n)))=false:=by
 have h1:=(lenO_le (barB x n st ns) n).2
 have h64:=n64 G
 have e:3#64*BitVec.ofNat 64 n=BitVec.ofNat 64 (3*n):=by
  apply BitVec.eq_of_toNat_eq
  rw [BitVec.toNat_mul,BitVec.toNat_ofNat,BitVec.toNat_ofNat,BitVec.toNat_ofNat]
  omega
 rw [e,slt_nat (by omega) (by omega)]
 exact decide_eq_false (by omega)
end
structure InsR (x:IT) (n ns:Nat) (st:Nat→Bool) (t k:Nat):Prop where
 gp:k<n
 np:(bv k).toNat=k
 ef:frO (barB x n st ns) n t=bv k
 n0:(bv k).slt 0#64=false
 nl:(BitVec.ofNat 64 n).sle (bv k)=false
 ho:(((out2 x (barB x n st ns) n (lenO (barB x n st ns) n)) t).o==194#8)=false
 lk:(bv k==lastV (out2 x (barB x n st ns) n (lenO (barB x n st ns) n)) (frO (barB x n st ns) n) t + 1#64)=true
 la:lastV (out2 x (barB x n st ns) n (lenO (barB x n st ns) n)) (frO (barB x n st ns) n) (t + 1)=bv k
 stp:stoB ((out2 x (barB x n st ns) n (lenO (barB x n st ns) n)) t).o=true→(bv k).slt (BitVec.ofNat 64 ns)=true→st k=true→(BitVec.ofNat 64 (lenO (barB x n st ns) n)).sle (BitVec.ofNat 64 t + 1#64)=false∧(((out2 x (barB x n st ns) n (lenO (barB x n st ns) n)) (BitVec.ofNat 64 t + 1#64).toNat).o==194#8)=true
structure BarR (x:IT) (n ns:Nat) (st:Nat→Bool) (t:Nat):Prop where
 ef:frO (barB x n st ns) n t=BitVec.ofInt 64 (Int.negSucc 0)
 ho:(((out2 x (barB x n st ns) n (lenO (barB x n st ns) n)) t).o==194#8)=true
 pv:(0#64).slt (BitVec.ofNat 64 t)=true→(((out2 x (barB x n st ns) n (lenO (barB x n st ns) n)) (BitVec.ofNat 64 t - 1#64).toNat).o==194#8)=false∧0≤(BitVec.ofNat 64 t - 1#64).toInt∧(BitVec.ofNat 64 t - 1#64).toNat<(lenO (barB x n st ns) n)
 la:lastV (out2 x (barB x n st ns) n (lenO (barB x n st ns) n)) (frO (barB x n st ns) n) (t + 1)=lastV (out2 x (barB x n st ns) n (lenO (barB x n st ns) n)) (frO (barB x n st ns) n) t
inductive Rnd (x:IT) (n ns:Nat) (st:Nat→Bool) (t:Nat):Prop
 | b (R:BarR x n ns st t) (he:endB ((out2 x (barB x n st ns) n (lenO (barB x n st ns) n)) (BitVec.ofNat 64 t).toNat).o=false) (ha:alwB ((out2 x (barB x n st ns) n (lenO (barB x n st ns) n)) (BitVec.ofNat 64 t).toNat).o=false) (hj:jmpB ((out2 x (barB x n st ns) n (lenO (barB x n st ns) n)) (BitVec.ofNat 64 t).toNat).o=false) (n0:(BitVec.ofNat 64 t + szV ((out2 x (barB x n st ns) n (lenO (barB x n st ns) n)) (BitVec.ofNat 64 t).toNat).o).slt 0#64=false) (n1:(BitVec.ofNat 64 (lenO (barB x n st ns) n)).sle (BitVec.ofNat 64 t + szV ((out2 x (barB x n st ns) n (lenO (barB x n st ns) n)) (BitVec.ofNat 64 t).toNat).o)=false)
 | s (k:Nat) (R:InsR x n ns st t k) (he:endB ((out2 x (barB x n st ns) n (lenO (barB x n st ns) n)) (BitVec.ofNat 64 t).toNat).o=false) (ha:alwB ((out2 x (barB x n st ns) n (lenO (barB x n st ns) n)) (BitVec.ofNat 64 t).toNat).o=false) (hj:jmpB ((out2 x (barB x n st ns) n (lenO (barB x n st ns) n)) (BitVec.ofNat 64 t).toNat).o=false) (n0:(BitVec.ofNat 64 t + szV ((out2 x (barB x n st ns) n (lenO (barB x n st ns) n)) (BitVec.ofNat 64 t).toNat).o).slt 0#64=false) (n1:(BitVec.ofNat 64 (lenO (barB x n st ns) n)).sle (BitVec.ofNat 64 t + szV ((out2 x (barB x n st ns) n (lenO (barB x n st ns) n)) (BitVec.ofNat 64 t).toNat).o)=false)
 | e (k:Nat) (R:InsR x n ns st t k) (he:endB ((out2 x (barB x n st ns) n (lenO (barB x n st ns) n)) (BitVec.ofNat 64 t).toNat).o=true)
 | a (k:Nat) (R:InsR x n ns st t k) (he:endB ((out2 x (barB x n st ns) n (lenO (barB x n st ns) n)) (BitVec.ofNat 64 t).toNat).o=false) (ha:alwB ((out2 x (barB x n st ns) n (lenO (barB x n st ns) n)) (BitVec.ofNat 64 t).toNat).o=true) (hj:jmpB ((out2 x (barB x n st ns) n (lenO (barB x n st ns) n)) (BitVec.ofNat 64 t).toNat).o=true) (t0:(toK (out2 x (barB x n st ns) n (lenO (barB x n st ns) n)) t).slt 0#64=false) (t1:(BitVec.ofNat 64 (lenO (barB x n st ns) n)).sle (toK (out2 x (barB x n st ns) n (lenO (barB x n st ns) n)) t)=false)
 | c (k:Nat) (R:InsR x n ns st t k) (he:endB ((out2 x (barB x n st ns) n (lenO (barB x n st ns) n)) (BitVec.ofNat 64 t).toNat).o=false) (ha:alwB ((out2 x (barB x n st ns) n (lenO (barB x n st ns) n)) (BitVec.ofNat 64 t).toNat).o=false) (hj:jmpB ((out2 x (barB x n st ns) n (lenO (barB x n st ns) n)) (BitVec.ofNat 64 t).toNat).o=true) (n0:(BitVec.ofNat 64 t + szV ((out2 x (barB x n st ns) n (lenO (barB x n st ns) n)) (BitVec.ofNat 64 t).toNat).o).slt 0#64=false) (n1:(BitVec.ofNat 64 (lenO (barB x n st ns) n)).sle (BitVec.ofNat 64 t + szV ((out2 x (barB x n st ns) n (lenO (barB x n st ns) n)) (BitVec.ofNat 64 t).toNat).o)=false) (n2:0≤(BitVec.ofNat 64 t + szV ((out2 x (barB x n st ns) n (lenO (barB x n st ns) n)) (BitVec.ofNat 64 t).toNat).o).toInt∧(BitVec.ofNat 64 t + szV ((out2 x (barB x n st ns) n (lenO (barB x n st ns) n)) (BitVec.ofNat 64 t).toNat).o).toNat<(lenO (barB x n st ns) n))
     (t0:(toK (out2 x (barB x n st ns) n (lenO (barB x n st ns) n)) t).slt 0#64=false) (t1:(BitVec.ofNat 64 (lenO (barB x n st ns) n)).sle (toK (out2 x (barB x n st ns) n (lenO (barB x n st ns) n)) t)=false) (t2:0≤(toK (out2 x (barB x n st ns) n (lenO (barB x n st ns) n)) t).toInt∧(toK (out2 x (barB x n st ns) n (lenO (barB x n st ns) n)) t).toNat<(lenO (barB x n st ns) n))
     (w1:(((out2 x (barB x n st ns) n (lenO (barB x n st ns) n)) (BitVec.ofNat 64 t + szV ((out2 x (barB x n st ns) n (lenO (barB x n st ns) n)) (BitVec.ofNat 64 t).toNat).o).toNat).o==194#8)=true) (w2:(((out2 x (barB x n st ns) n (lenO (barB x n st ns) n)) (toK (out2 x (barB x n st ns) n (lenO (barB x n st ns) n)) t).toNat).o==194#8)=true)
section
variable {x : IT} {n ns : Nat} {st : Nat → Bool} {m : BitVec 64} (G : Good x n m false)
include G
end
end Go.Proofs.YthkgakelgdncjaaDoor
