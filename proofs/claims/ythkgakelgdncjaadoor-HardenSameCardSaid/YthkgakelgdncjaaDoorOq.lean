/- Chapter 04: Check's answer, put together: plain facts. Conditions: as each says. -/
import Derived.Test.YthkgakelgdncjaaDoorOb
namespace Go.Proofs.YthkgakelgdncjaaDoor
open Go.Ep Go.RowKit
set_option linter.unusedVariables false
set_option linter.unusedSimpArgs false
noncomputable abbrev ansC (x:IT) (n:Nat) (m:BitVec 64) (w:Bool):AV:= .tup [(false,[.b64 true (chk4 x n m w).1]),(false,[.b64 true (chk4 x n m w).2])]
theorem ans_of {x:IT} {n:Nat} {m:BitVec 64} {w:Bool} {a b:BitVec 64} (h:chk4 x n m w=(a,b)):AV.tup [(false,[.b64 true a]),(false,[.b64 true b])]=ansC x n m w:=by
 rw [ansC,h]
theorem chk_L {x:IT} {n:Nat} {m:BitVec 64} {w:Bool} (h:n=0∨mostN w<n):chk4 x n m w=(0#64,3#64):=by
 unfold chk4;rw [if_pos h]
theorem chk_A {x:IT} {n k:Nat} {m:BitVec 64} {w:Bool} (hn:¬ (n=0∨mostN w<n)) (hk:k<n) (hb:badA x n m w k=true) (hj:∀ j,j<k→badA x n m w j=false):chk4 x n m w=(bv k,aloneE x n (bv k) m w):=by
 unfold chk4;rw [if_neg hn,fstN_some hk hb hj]
theorem chk_W {x:IT} {n k:Nat} {m:BitVec 64} {w:Bool} (hn:¬ (n=0∨mostN w<n)) (hA:∀ j,j<n→badA x n m w j=false) (hk:k<n) (hb:badW x n k=true) (hj:∀ j,j<k→badW x n j=false):chk4 x n m w=(bv k,wayE x n (bv k)):=by
 unfold chk4;rw [if_neg hn,fstN_none hA,fstN_some hk hb hj]
theorem chk_R {x:IT} {n k:Nat} {m:BitVec 64} {w:Bool} (hn:¬ (n=0∨mostN w<n)) (hA:∀ j,j<n→badA x n m w j=false) (hW:∀ j,j<n→badW x n j=false) (hk:k<n) (hb:(!hf x k&& !reachB x k)=true)
 (hj:∀ j,j<k→(!hf x j&& !reachB x j)=false):chk4 x n m w=(bv k,42#64):=by
 unfold chk4;rw [if_neg hn,fstN_none hA,fstN_none hW,fstN_some (p:=fun p=> !hf x p&& !reachB x p) hk hb hj]
theorem chk_0 {x:IT} {n:Nat} {m:BitVec 64} {w:Bool} (hn:¬ (n=0∨mostN w<n)) (hA:∀ j,j<n→badA x n m w j=false) (hW:∀ j,j<n→badW x n j=false)
 (hR:∀ j,j<n→(!hf x j&& !reachB x j)=false):chk4 x n m w=(0#64,0#64):=by
 unfold chk4;rw [if_neg hn,fstN_none hA,fstN_none hW,fstN_none hR]
theorem ways_of {x:IT} {n:Nat} (hn:n≤8000) (hW:∀ j,j<n→badW x n j=false):WaysOK x n:=⟨hn,fun p hp hh=>by
 have:=hW p hp
 unfold badW at this
 rw [hh] at this
 simpa using this⟩
theorem more {P:Nat→Prop} {k:Nat} (h:∀ j,j<k→P j) (hk:P k):∀ j,j<k + 1→P j:=fun j hj=>by
 by_cases e:j=k
 · subst e;exact hk
 · exact h j (by omega)
theorem nat8 {n k:Nat} (hn:n≤8000) (hk:k≤n):(BitVec.ofNat 64 k).toNat=k:=nat_ofNat (by omega)
theorem lt8k {n k:Nat} (hn:n≤8000) (hk:k≤n) (h:(BitVec.ofNat 64 k).slt (BitVec.ofNat 64 n)=true):k<n:=lt_of_slt (by omega) (by omega) h
theorem ge8k {n k:Nat} (hn:n≤8000) (hk:k≤n) (h:(BitVec.ofNat 64 k).slt (BitVec.ofNat 64 n)=false):n=k:=Nat.le_antisymm (ge_of_slt (by omega) (by omega) h) hk
theorem ix8k {n k:Nat} (hn:n≤8000) (hk:k≤n) (h:(BitVec.ofNat 64 k).slt (BitVec.ofNat 64 n)=true):0≤(BitVec.ofNat 64 k).toInt∧(BitVec.ofNat 64 k).toNat<n:=ix_ofNat (by omega) (lt8k hn hk h)
theorem fs_at {x:IT} {a n k:Nat} (hn:n≤8000) (ha:n≤a) (hk:k<n):fsB x a (BitVec.ofNat 64 k).toNat= !hf x k:=by
 rw [nat8 hn (by omega),fsB_end x (by omega)]
theorem sk_A {x:IT} {a n k:Nat} {m:BitVec 64} {w:Bool} (hn:n≤8000) (ha:n≤a) (hk:k<n) (h:(!fsB x a (BitVec.ofNat 64 k).toNat)=true):badA x n m w k=false:=by
 rw [fs_at hn ha hk] at h
 have:hf x k=true:=by simpa using h
 rw [badA,this];rfl
theorem sk_W {x:IT} {a n k:Nat} (hn:n≤8000) (ha:n≤a) (hk:k<n) (h:(!fsB x a (BitVec.ofNat 64 k).toNat)=true):badW x n k=false:=by
 rw [fs_at hn ha hk] at h
 have:hf x k=true:=by simpa using h
 rw [badW,this];rfl
theorem fst_of {x:IT} {a n k:Nat} (hn:n≤8000) (ha:n≤a) (hk:k<n) (h:(!fsB x a (BitVec.ofNat 64 k).toNat)=false):hf x k=false:=by
 rw [fs_at hn ha hk] at h
 simpa using h
theorem ok_A {x:IT} {n k:Nat} {m:BitVec 64} {w b:Bool} (hh:hf x k=false) (h:(aloneE x n (BitVec.ofNat 64 k) m w != 0#64)=b):badA x n m w k=b:=by
 rw [badA,hh];exact h
theorem ok_A' {x:IT} {n k:Nat} {m:BitVec 64} {w b:Bool} (hh:hf x k=false) (h:(aloneE (inOf (inF x)) n (BitVec.ofNat 64 k) m w != 0#64)=b):badA x n m w k=b:=ok_A hh h
theorem ok_W {x:IT} {n k:Nat} {e:BitVec 64} {b:Bool} (hh:hf x k=false) (h:wayE x n (BitVec.ofNat 64 k)=e) (hb:(e != 0#64)=b):badW x n k=b:=by
 rw [badW,hh,show wayE x n (bv k)=e from h];exact hb
theorem first_go {x:IT} {a n:Nat} (hn:n≤8000) (h:hf x a=false∧a≤n + 1) (hlt:a<n):hf x (a + szN (x a).o)=false∧a + szN (x a).o≤n + 1:=by
 have hs:szN (x a).o≤2:=by unfold szN;split<;>omega
 exact ⟨hf_next x h.1,by omega⟩
theorem first_nx {x:IT} {a k:Nat} (e:k=a):AV.one (.b64 true (BitVec.ofNat 64 a + szV (x k).o))=iN (a + szN (x a).o):=by
 subst e
 rw [szV_nat];exact congrArg (fun v=>AV.one (.b64 true v)) (BitVec.ofNat_add _ _).symm
theorem first_lt {n a:Nat} (hn:n≤8000) (ha:a≤n + 1) (h:(BitVec.ofNat 64 a).slt (BitVec.ofNat 64 n)=true):a<n:=lt_of_slt (by omega) (by omega) h
theorem first_ge {n a:Nat} (hn:n≤8000) (ha:a≤n + 1) (h:(BitVec.ofNat 64 a).slt (BitVec.ofNat 64 n)=false):n≤a:=ge_of_slt (by omega) (by omega) h
theorem sz_pos (o:BitVec 8):1≤szN o:=by unfold szN;split<;>omega
theorem to_in {v:BitVec 64} {n:Nat} (hn:n≤8000) (h1:v.slt 0#64=false) (h2:(BitVec.ofNat 64 n).sle v=false):0≤v.toInt∧v.toNat<n:=by
 rw [BitVec.slt_eq_decide,show (0#64).toInt=0 by decide] at h1
 rw [BitVec.sle_eq_decide,toInt_ofNat (by omega)] at h2
 simp only [decide_eq_false_iff_not] at h1 h2
 refine ⟨by omega,?_⟩
 rw [BitVec.toInt_eq_toNat_cond] at h1 h2
 have:=v.isLt
 split at h1<;>omega
theorem fs_to {x:IT} {a n:Nat} {v:BitVec 64} (hn:n≤8000) (ha:n≤a) (h1:v.slt 0#64=false) (h2:(BitVec.ofNat 64 n).sle v=false):fsB x a v.toNat= !hf x v.toNat:=fsB_end x (Nat.lt_of_lt_of_le (to_in hn h1 h2).2 ha)
abbrev toK (x:IT) (k:Nat):BitVec 64:=BitVec.ofNat 64 k + 1#64 + BitVec.signExtend 64 (x (BitVec.ofNat 64 k).toNat).f
def JOK (x:IT) (n k:Nat):Prop:=jmpB (x (BitVec.ofNat 64 k).toNat).o=false∨(jmpB (x (BitVec.ofNat 64 k).toNat).o=true∧(toK x k).slt 0#64=false∧(BitVec.ofNat 64 n).sle (toK x k)=false∧hf x (toK x k).toNat=false)
theorem way40a {x:IT} {n k:Nat} (h1:jmpB (x (BitVec.ofNat 64 k).toNat).o=true) (h2:(toK x k).slt 0#64=true):wayE x n (BitVec.ofNat 64 k)=40#64:=by
 unfold wayE;rw [show toV x (BitVec.ofNat 64 k)=toK x k from rfl,h1,h2];rfl
theorem way40b {x:IT} {n k:Nat} (h1:jmpB (x (BitVec.ofNat 64 k).toNat).o=true) (h3:(BitVec.ofNat 64 n).sle (toK x k)=true):wayE x n (BitVec.ofNat 64 k)=40#64:=by
 unfold wayE;rw [show toV x (BitVec.ofNat 64 k)=toK x k from rfl,h1,h3];simp
theorem way41 {x:IT} {n k a:Nat} (hn:n≤8000) (ha:n≤a) (h1:jmpB (x (BitVec.ofNat 64 k).toNat).o=true) (h2:(toK x k).slt 0#64=false) (h3:(BitVec.ofNat 64 n).sle (toK x k)=false) (h4:(!fsB x a (toK x k).toNat)=true):wayE x n (BitVec.ofNat 64 k)=41#64:=by
 rw [fs_to hn ha h2 h3] at h4
 have h5:hf x (toK x k).toNat=true:=by simpa using h4
 unfold wayE;rw [show toV x (BitVec.ofNat 64 k)=toK x k from rfl,h1,h2,h3,h5];rfl
theorem jok_a {x:IT} {n k:Nat} (h1:jmpB (x (BitVec.ofNat 64 k).toNat).o=false):JOK x n k:= .inl h1
theorem jok_b {x:IT} {n k a:Nat} (hn:n≤8000) (ha:n≤a) (h1:jmpB (x (BitVec.ofNat 64 k).toNat).o=true) (h2:(toK x k).slt 0#64=false) (h3:(BitVec.ofNat 64 n).sle (toK x k)=false) (h4:(!fsB x a (toK x k).toNat)=false):JOK x n k:=by
 rw [fs_to hn ha h2 h3] at h4
 exact .inr ⟨h1,h2,h3,by simpa using h4⟩
theorem way_J {x:IT} {n k:Nat} (J:JOK x n k):wayE x n (BitVec.ofNat 64 k)=if !endB (x (BitVec.ofNat 64 k).toNat).o&&(!alwB (x (BitVec.ofNat 64 k).toNat).o&&(BitVec.ofNat 64 n).sle (BitVec.ofNat 64 k + szV (x (BitVec.ofNat 64 k).toNat).o)) then 43#64 else 0#64:=by
 unfold wayE
 rw [show toV x (BitVec.ofNat 64 k)=toK x k from rfl]
 rcases J with h | ⟨h1,h2,h3,h4⟩
 · rw [h];rfl
 · rw [h1,h2,h3,h4];rfl
theorem way43 {x:IT} {n k:Nat} (J:JOK x n k) (h1:(!endB (x (BitVec.ofNat 64 k).toNat).o)=true) (h2:(!alwB (x (BitVec.ofNat 64 k).toNat).o)=true) (h3:(BitVec.ofNat 64 n).sle (BitVec.ofNat 64 k + szV (x (BitVec.ofNat 64 k).toNat).o)=true):wayE x n (BitVec.ofNat 64 k)=43#64:=by
 rw [way_J J,h1,h2,h3];rfl
theorem way0a {x:IT} {n k:Nat} (J:JOK x n k) (h1:(!endB (x (BitVec.ofNat 64 k).toNat).o)=false):wayE x n (BitVec.ofNat 64 k)=0#64:=by
 rw [way_J J,h1];rfl
theorem way0b {x:IT} {n k:Nat} (J:JOK x n k) (h2:(!alwB (x (BitVec.ofNat 64 k).toNat).o)=false):wayE x n (BitVec.ofNat 64 k)=0#64:=by
 rw [way_J J,h2];simp
theorem way0c {x:IT} {n k:Nat} (J:JOK x n k) (h3:(BitVec.ofNat 64 n).sle (BitVec.ofNat 64 k + szV (x (BitVec.ofNat 64 k).toNat).o)=false):wayE x n (BitVec.ofNat 64 k)=0#64:=by
 rw [way_J J,h3];simp
theorem ans_W {x:IT} {n k:Nat} {m e:BitVec 64} {w:Bool} (hn:¬ (n=0∨mostN w<n)) (hA:∀ j,j<n→badA x n m w j=false) (hk:k<n) (hh:hf x k=false) (he:wayE x n (BitVec.ofNat 64 k)=e) (hb:(e != 0#64)=true)
 (hj:∀ j,j<k→badW x n j=false):AV.tup [(false,[.b64 true (BitVec.ofNat 64 k)]),(false,[.b64 true e])]=ansC x n m w:=by
 have:=chk_W (m:=m) (w:=w) hn hA hk (ok_W hh he hb) hj
 rw [show wayE x n (bv k)=e from he] at this
 exact ans_of this
theorem sk_R {x:IT} {a n k:Nat} (hn:n≤8000) (ha:n≤a) (hk:k<n) (h:fsB x a (BitVec.ofNat 64 k).toNat=false):(!hf x k&& !reachB x k)=false:=by
 rw [fs_at hn ha hk] at h;rw [h];rfl
theorem rd_R {x:IT} {n k:Nat} {b:Bool} (hn:n≤8000) (hk:k<n) (h:(!reachB x (BitVec.ofNat 64 k).toNat)=b):(!reachB x k)=b:=by rw [nat8 hn (by omega)] at h;exact h
theorem ok_R {x:IT} {n k:Nat} (hn:n≤8000) (hk:k<n) (h:(!reachB x (BitVec.ofNat 64 k).toNat)=false):(!hf x k&& !reachB x k)=false:=by rw [rd_R hn hk h];simp
theorem bad_R {x:IT} {a n k:Nat} (hn:n≤8000) (ha:n≤a) (hk:k<n) (h:fsB x a (BitVec.ofNat 64 k).toNat=true) (h2:(!reachB x (BitVec.ofNat 64 k).toNat)=true):(!hf x k&& !reachB x k)=true:=by
 rw [fs_at hn ha hk] at h;rw [h,rd_R hn hk h2];rfl
theorem to_next {P:Nat→Prop} {x:IT} {a:Nat} (h:∀ j,j<a→P j) (ha:P a) (hh:hf x a=false) (hP:∀ j,hf x j=true→P j):∀ j,j<a + szN (x a).o→P j:=fun j hj=>by
 by_cases h1:j<a
 · exact h j h1
 · by_cases e:j=a
   · subst e;exact ha
   · exact hP j (hf_half x hh (by omega) hj)
theorem badA_half {x:IT} {n j:Nat} {m:BitVec 64} {w:Bool} (h:hf x j=true):badA x n m w j=false:=by rw [badA,h];rfl
theorem badW_half {x:IT} {n j:Nat} (h:hf x j=true):badW x n j=false:=by rw [badW,h];rfl
theorem badR_half {x:IT} {j:Nat} (h:hf x j=true):(!hf x j&& !reachB x j)=false:=by rw [h];rfl
theorem next_nx {x:IT} {a k:Nat} (e:k=a):AV.one (.b64 true (BitVec.ofNat 64 a + szV (inOf (inF x) k).o))=iN (a + szN (x a).o):=first_nx e
theorem below {P:Nat→Prop} {a n:Nat} (h:∀ j,j<a→P j) (ha:n≤a):∀ j,j<n→P j:=fun j hj=>h j (by omega)
def Clo (x:IT) (n:Nat) (g:Nat→Bool):Prop:=∀ p,p<n→g p=true→∀ q∈succ x p,g q=true
structure Inner (x:IT) (n:Nat) (g g':Nat→Bool) (mo:Bool) (k:Nat):Prop where
 led:LedOK x g'
 le:k≤n
 no:mo=false→g'=g∧∀ p,p<k→g p=true→∀ q∈succ x p,g q=true
 yes:mo=true→cnt g' n<cnt g n
theorem mark_id {g:Nat→Bool} {k:Nat} (h:g k=true):mark g k=g:=by
 funext j
 by_cases e:j=k
 · subst e;rw [mark_self,h]
 · rw [mark_other g e]
theorem Inner.start {x:IT} {n:Nat} {g:Nat→Bool} (h:LedOK x g):Inner x n g g false 0:=⟨h,Nat.zero_le _,fun _=>⟨rfl,fun p hp=>by omega⟩,fun h=>by cases h⟩
theorem Inner.upd {x:IT} {n k q:Nat} {g g':Nat→Bool} {mo:Bool} (W:WaysOK x n) (h0:0<n) (h:Inner x n g g' mo k) (hk:g' k=true) (hq:q∈succ x k):LedOK x (mark g' q)∧((mo|| !g' q)=false→mark g' q=g∧g'=g∧mo=false)∧((mo|| !g' q)=true→cnt (mark g' q) n<cnt g n):=by
 have hr:=reach_lt W h0 (h.led.2 k hk)
 have hl:=succ_lt W hr.1 hr.2 hq
 refine ⟨h.led.more hk hq,fun e=> ?_,fun e=> ?_⟩
 · obtain ⟨e1,e2⟩:=Bool.or_eq_false_iff.1 e
   have e3:g' q=true:=by simpa using e2
   rw [mark_id e3]
   exact ⟨(h.no e1).1,(h.no e1).1,e1⟩
 · cases hgq:g' q with
   | true=>
     rw [mark_id hgq]
     rw [hgq] at e
     exact h.yes (by simpa using e)
   | false=>
     have c1:=cnt_mark hgq n hl.1
     cases hm:mo with
     | true=>have:=h.yes hm;omega
     | false=>rw [← (h.no hm).1];omega
theorem Inner.next0 {x:IT} {n k:Nat} {g g':Nat→Bool} {mo:Bool} (h:Inner x n g g' mo k) (hlt:k<n) (hs:g' k=false∨succ x k=[]):Inner x n g g' mo (k + 1):=
 ⟨h.led,hlt,fun e=>⟨(h.no e).1,fun p hp hg q hq=>by
   by_cases e2:p=k
   · subst e2
     rcases hs with hs | hs
     · rw [(h.no e).1] at hs;rw [hs] at hg;cases hg
     · rw [hs] at hq;cases hq
   · exact (h.no e).2 p (by omega) hg q hq⟩,h.yes⟩
theorem Inner.next1 {x:IT} {n k q:Nat} {g g':Nat→Bool} {mo:Bool} (W:WaysOK x n) (h0:0<n) (h:Inner x n g g' mo k) (hlt:k<n) (hk:g' k=true) (hs:succ x k=[q]):Inner x n g (mark g' q) (mo|| !g' q) (k + 1):=by
 obtain ⟨h1,h2,h3⟩:=h.upd W h0 hk (q:=q) (by rw [hs];simp)
 refine ⟨h1,hlt,fun e=>⟨(h2 e).1,fun p hp hg r hr=> ?_⟩,h3⟩
 by_cases e2:p=k
 · subst e2
   rw [hs] at hr
   obtain rfl:r=q:=by simpa using hr
   rw [← (h2 e).1];exact mark_self _ _
 · exact (h.no (h2 e).2.2).2 p (by omega) hg r hr
theorem Inner.next2 {x:IT} {n k q r:Nat} {g g':Nat→Bool} {mo:Bool} (W:WaysOK x n) (h0:0<n) (h:Inner x n g g' mo k) (hlt:k<n) (hk:g' k=true) (hs:succ x k=[q,r]):Inner x n g (mark (mark g' q) r) ((mo|| !g' q)|| !mark g' q r) (k + 1):=by
 obtain ⟨h1,h2,h3⟩:=h.upd W h0 hk (q:=q) (by rw [hs];simp)
 have hI:Inner x n g (mark g' q) (mo|| !g' q) k:=⟨h1,h.le,fun e=>⟨(h2 e).1,(h.no (h2 e).2.2).2⟩,h3⟩
 obtain ⟨h4,h5,h6⟩:=hI.upd W h0 (mark_mono g' q hk) (q:=r) (by rw [hs];simp)
 refine ⟨h4,hlt,fun e=>⟨(h5 e).1,fun p hp hg s hsr=> ?_⟩,h6⟩
 by_cases e2:p=k
 · subst e2
   rw [hs] at hsr
   rw [← (h5 e).1]
   rcases List.mem_cons.1 hsr with rfl | hsr
   · exact mark_mono _ _ (mark_self _ _)
   · obtain rfl:s=r:=by simpa using hsr
     exact mark_self _ _
 · exact (h.no (h2 (h5 e).2.2).2.2).2 p (by omega) hg s hsr
structure Outer (x:IT) (n:Nat) (g:Nat→Bool) (mo:Bool):Prop where
 led:LedOK x g
 clo:mo=false→Clo x n g
theorem Inner.done {x:IT} {n:Nat} {g g':Nat→Bool} {mo:Bool} (h:Inner x n g g' mo n):Outer x n g' mo∧2*cnt g' n + mo.toNat<2*cnt g n + 1:=by
 refine ⟨⟨h.led,fun e=> ?_⟩,?_⟩
 · rw [(h.no e).1];exact (h.no e).2
 · cases hm:mo with
   | true=>have:=h.yes hm;simp;omega
   | false=>rw [(h.no hm).1];simp
theorem Outer.done {x:IT} {n:Nat} {g:Nat→Bool} (W:WaysOK x n) (h0:0<n) (h:Outer x n g false):g=reachB x:=h.led.done W h0 (h.clo rfl)
end Go.Proofs.YthkgakelgdncjaaDoor
