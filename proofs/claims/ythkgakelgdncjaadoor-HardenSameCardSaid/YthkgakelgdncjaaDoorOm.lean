/- Instructions: what package insns makes of an opcode and of fields, as bit vectors. Plain definitions and facts. Conditions: none. -/
import Derived.Test.YthkgakelgdncjaaDoorPs
import Derived.ProofKit
import Derived.OpenShut
import Derived.ShutString
import Derived.Lib.SmallJoins
import Derived.Test.YthkgakelgdncjaaDoorPr
import Derived.Deep.Slices
namespace Go.Proofs.YthkgakelgdncjaaDoor
open Go.Ep Go.RowKit
set_option linter.unusedVariables false
set_option linter.unusedSimpArgs false
abbrev oc (o:BitVec 8):BitVec 8:=o &&& 240#8
abbrev orr (o:BitVec 8):Bool:=o &&& 8#8 != 0#8
def isA (o:BitVec 8):Bool:=o &&& 7#8==4#8||o &&& 7#8==7#8
def isJ (o:BitVec 8):Bool:=o &&& 7#8==5#8||o &&& 7#8==6#8
def isLd (o:BitVec 8):Bool:=o==24#8
def isLx (o:BitVec 8):Bool:=o==113#8||o==105#8||o==97#8||o==121#8
def isSt (o:BitVec 8):Bool:=o==114#8||o==106#8||o==98#8||o==122#8
def isSx (o:BitVec 8):Bool:=o==115#8||o==107#8||o==99#8||o==123#8
def isNs (o:BitVec 8):Bool:=o==194#8
def jAl (o:BitVec 8):Bool:=o &&& 7#8==5#8&&o &&& 8#8==0#8
def jSp (o:BitVec 8):Bool:=oc o==0#8||oc o==128#8||oc o==144#8
def jD (o:BitVec 8):Bool:= !(jSp o)
def jS (o:BitVec 8):Bool:= !(jSp o)&&orr o
def jO (o:BitVec 8):Bool:=oc o==0#8|| !(jSp o)
def jI (o:BitVec 8):Bool:=oc o==128#8|| !(jSp o)&& !(orr o)
def jK (o:BitVec 8):Bool:=if jSp o then jAl o else (oc o).ule 208#8
def fD (o:BitVec 8):Bool:=if isA o then true else if isJ o then jD o else isLd o||isLx o||isSt o||isSx o
def fS (o:BitVec 8):Bool:=if isA o then orr o else if isJ o then jS o else isLd o||isLx o||isSx o
def fO (o:BitVec 8):Bool:=if isA o then false else if isJ o then jO o else isLx o||isSt o||isSx o
def fI (o:BitVec 8):Bool:=if isA o then !(orr o)&& !(oc o==128#8) else if isJ o then jI o else isLd o||isSt o
def fW (o:BitVec 8):Bool:=if isA o then true else if isJ o then false else isLd o||isLx o
def fK (o:BitVec 8) (inner:Bool):Bool:=if isA o then (oc o).ule 192#8&& !(oc o==128#8&&orr o) else if isJ o then jK o else isLd o||isLx o||isSt o||isSx o||isNs o&&inner
def iN' (o:BitVec 8) (imm:BitVec 32):Bool:=
 if isA o then (if oc o==96#8||oc o==112#8||oc o==192#8 then (0#32).sle imm&&(imm.slt 32#32||imm.slt 64#32&&o &&& 7#8==7#8) else if oc o==48#8||oc o==144#8 then imm != 0#32 else true) else true
def iCheck (o d s:BitVec 8) (off:BitVec 16) (imm:BitVec 32) (inner:Bool):BitVec 64:=
 if !(fK o inner) then 20#64 else if (10#8).ult d||(10#8).ult s||fW o&&d==10#8 then 22#64
 else if !(fD o)&&d != 0#8|| !(fS o)&&s != 0#8|| !(fO o)&&off != 0#16|| !(fI o)&&imm != 0#32||o==24#8&&(1#8).ult s then 21#64
 else if fI o&& !(iN' o imm) then 23#64 else 0#64
theorem all8 {p:BitVec 8→Bool} (h:((List.range 256).all fun n=>p (BitVec.ofNat 8 n))=true) (o:BitVec 8):p o=true:=by
 have:=List.all_eq_true.1 h o.toNat (List.mem_range.2 o.isLt)
 simpa using this
def rLow (v n:BitVec 64):BitVec 64:=if (64#64).sle n=true then v else if n.sle 0#64=true then 0#64 else v % (1#64 <<< n.toNat)
theorem sle_lt {n:BitVec 64} (h:(64#64).sle n=false) (h':n.sle 0#64=false):n.toNat<64:=by
 have h1:¬ ((64#64).sle n=true):=by rw [h];decide
 have h2:¬ (n.sle 0#64=true):=by rw [h'];decide
 rw [BitVec.sle_iff_toInt_le] at h1 h2
 have e1:(64#64).toInt=64:=rfl
 have e2:(0#64).toInt=0:=rfl
 rw [e1] at h1;rw [e2] at h2
 have:=n.isLt
 rw [BitVec.toInt_eq_toNat_cond] at h1 h2
 split at h1<;>omega
theorem sle_lt1 {n:BitVec 64} (h:(64#64).sle n=false) (h':n.sle 0#64=false):(n - 1#64).toNat<64:=by
 have h1:=sle_lt h h'
 have h2:¬ (n.sle 0#64=true):=by rw [h'];decide
 rw [BitVec.sle_iff_toInt_le,BitVec.toInt_eq_toNat_cond,if_pos (by omega)] at h2
 have e2:(0#64).toInt=0:=rfl
 rw [e2] at h2
 rw [BitVec.toNat_sub]
 simp only [BitVec.toNat_ofNat]
 omega
theorem pow_ne {m:Nat} (h:m<64):1#64 <<< m≠0#64:=by
 intro e
 have e2:=congrArg BitVec.toNat e
 have h2:2 ^ m<2 ^ 64:=Nat.pow_lt_pow_right (by decide) h
 have h3:0<2 ^ m:=Nat.two_pow_pos m
 rw [BitVec.toNat_shiftLeft,Nat.shiftLeft_eq] at e2
 simp only [BitVec.toNat_ofNat,Nat.one_mod,Nat.one_mul] at e2
 rw [Nat.mod_eq_of_lt (by simpa using h2)] at e2
 simp at e2
def rSign (v n:BitVec 64):BitVec 64:=if (n.sle 0#64||(64#64).sle n||(rLow v n).ult (1#64 <<< (n - 1#64).toNat))=true then rLow v n else rLow v n - 1#64 <<< n.toNat
end Go.Proofs.YthkgakelgdncjaaDoor
namespace Go.Proofs.YthkgakelgdncjaaDoor
set_option linter.unusedVariables false
set_option linter.unusedSimpArgs false
structure Fits (o d s:BitVec 8) (off:BitVec 16) (imm:BitVec 32):Prop where
 K:fK o true=true
 hd:(10#8).ult d=false
 hs:(10#8).ult s=false
 w:(fW o&&d==10#8)=false
 fd:(!(fD o)&&d != 0#8)=false
 fs:(!(fS o)&&s != 0#8)=false
 fo:(!(fO o)&&off != 0#16)=false
 fi:(!(fI o)&&imm != 0#32)=false
 l:(o==24#8&&(1#8).ult s)=false
 n:(fI o&& !(iN' o imm))=false
end Go.Proofs.YthkgakelgdncjaaDoor
namespace Go.Proofs.YthkgakelgdncjaaDoor
open Go.Ep Go.RowKit
set_option linter.unusedVariables false
set_option linter.unusedSimpArgs false
end Go.Proofs.YthkgakelgdncjaaDoor
namespace Go.Proofs.YthkgakelgdncjaaDoor
open Go.ChangeShapes Go.WideShapes Go.ChangeAt Go.RowKit
set_option linter.unusedVariables false
set_option linter.unusedSimpArgs false
inductive Leaf where
 | int (k:IntKind)
 | bool
 | str
def Leaf.ok:Leaf→Value→Prop
 | .int k,v=>∃ n,v= .int k n∧(Lit.int k n).wf=true
 | .bool,v=>∃ b,v= .bool b
 | .str,v=>∃ s,v= .string s∧s.size≤maxLen
def oks:List Leaf→List Value→Prop
 | [],[]=>True
 | l::ls,v::vs=>l.ok v∧oks ls vs
 | _,_=>False
def flatFields (P:Program) (g:TypeId→Option (List Leaf)):Nat→List Field→Option (List Leaf)
 | _,[]=>some []
 | o,f::fs=>if f.offset=o then (g f.type).bind fun l=>if l.length=P.cellsOf f.type then (flatFields P g (o + l.length) fs).map (l++·) else none else none
def flat (P:Program):Nat→TypeId→Option (List Leaf)
 | 0,_=>none
 | d + 1,t=>match P.underlying t with
   | some .bool=>some [.bool]
   | some (.int k)=>some [.int k]
   | some .string=>some [.str]
   | some (.struct fs)=>(flatFields P (flat P d) 0 fs.toList).bind fun l=>if l.length=P.cellsOf t then some l else none
   | some (.array n e)=>(flat P d e).bind fun l=>if l.length=P.cellsOf e∧n*l.length=P.cellsOf t then some ((List.replicate n l).flatten) else none
   | _=>none
theorem oks_append:∀ {l1 l2:List Leaf} {c1 c2:List Value},oks l1 c1→oks l2 c2→oks (l1++l2) (c1++c2)
 | [],_,[],_,_,h=>h
 | [],_,_::_,_,h,_=>h.elim
 | _::_,_,[],_,h,_=>h.elim
 | _::_,_,_::_,_,h,h'=>⟨h.1,oks_append h.2 h'⟩
theorem split_at (cs:List Value) (o n:Nat):cs.drop o=(cs.drop o).take n++cs.drop (o + n):=by
 rw [← List.drop_drop,List.take_append_drop]
section
variable {H : Type} {enc : TypeId × Value → H} {P : Program} {w : World} {base : Nat} {spare : Nat → Bool} {held : Bool}
theorem fields_oks {m:Nat} {g:TypeId→Option (List Leaf)}
 (hg:∀ t l cs x,g t=some l→DataW.trod enc P w base spare held m t cs=some x→oks l cs) (cs:List Value) :
 ∀ (fs:List Field) (o:Nat) (ls:List Leaf),flatFields P g o fs=some ls→o + ls.length=cs.length →
   (∀ (i:Nat) (f:Field),fs[i]? =some f→∃ x,DataW.trod enc P w base spare held m f.type ((cs.drop f.offset).take (P.cellsOf f.type))=some x)→oks ls (cs.drop o):=by
 intro fs
 induction fs with
 | nil=>
   intro o ls h hl _
   simp only [flatFields,Option.some.injEq] at h
   subst h
   rw [List.drop_of_length_le (by simp at hl;omega)]
   trivial
 | cons f fs ih=>
   intro o ls h hl hx
   simp only [flatFields] at h
   split at h
   · rename_i ho
     obtain ⟨l,hgl,h⟩:=Option.bind_eq_some_iff.1 h
     split at h
     · rename_i hlen
       obtain ⟨ls',h',rfl⟩:=Option.map_eq_some_iff.1 h
       obtain ⟨x,hx0⟩:=hx 0 f rfl
       have h1:=hg _ _ _ _ hgl hx0
       rw [ho,← hlen] at h1
       rw [split_at cs o l.length]
       refine oks_append h1 (ih _ _ h' (by simp at hl;omega) fun i f' hf=>hx (i + 1) f' (by simpa using hf))
     · cases h
   · cases h
theorem array_oks {m:Nat} {e:TypeId} {l:List Leaf} (hg:∀ cs x,DataW.trod enc P w base spare held m e cs=some x→oks l cs) (cs:List Value) (c:Nat) (_hc:l.length=c) :
 ∀ (n o:Nat),o + n*c=cs.length→(∀ i,i<n→∃ x,DataW.trod enc P w base spare held m e ((cs.drop (o + i*c)).take c)=some x)→oks (List.replicate n l).flatten (cs.drop o):=by
 intro n
 induction n with
 | zero=>
   intro o hl _
   rw [List.drop_of_length_le (by omega)]
   trivial
 | succ n ih=>
   intro o hl hx
   rw [List.replicate_succ,List.flatten_cons,split_at cs o c]
   obtain ⟨x,hx0⟩:=hx 0 (by omega)
   refine oks_append (hg _ _ (by simpa using hx0)) (ih (o + c) (by rw [Nat.add_mul] at hl;omega) fun i hi=> ?_)
   obtain ⟨y,hy⟩:=hx (i + 1) (by omega)
   exact ⟨y,by rw [show o + c + i*c=o + (i + 1)*c by rw [Nat.add_mul];omega];exact hy⟩
theorem flat_oks:∀ (d fuel:Nat) (t:TypeId) (l:List Leaf) (cs:List Value) (x:DataW H×List MemPlace),flat P d t=some l→DataW.trod enc P w base spare held fuel t cs=some x→oks l cs:=by
 intro d
 induction d with
 | zero=>intro _ _ _ _ _ h;cases h
 | succ d ih=>
   intro fuel t l cs x hf h
   simp only [flat] at hf
   split at hf
   · rename_i ht
     obtain rfl:=Option.some.inj hf
     cases fuel with
     | zero=>simp [DataW.trod] at h
     | succ fuel=>
       unfold DataW.trod at h
       rw [ht] at h
       split at h<;>simp_all [oks,Leaf.ok]
   · rename_i k ht
     obtain rfl:=Option.some.inj hf
     cases fuel with
     | zero=>simp [DataW.trod] at h
     | succ fuel=>
       unfold DataW.trod at h
       rw [ht] at h
       split at h<;>simp_all [oks,Leaf.ok]
   · rename_i ht
     obtain rfl:=Option.some.inj hf
     cases fuel with
     | zero=>simp [DataW.trod] at h
     | succ fuel=>
       unfold DataW.trod at h
       rw [ht] at h
       split at h<;>simp_all [oks,Leaf.ok]
   · rename_i fs ht
     obtain ⟨l',hl',hf⟩:=Option.bind_eq_some_iff.1 hf
     split at hf
     · rename_i hlen
       obtain rfl:=Option.some.inj hf
       obtain ⟨xs,n,_,rfl,hl,hxl,hfs⟩:=DataW.trod_struct ht h
       have:=fields_oks (fun t l cs x a b=>ih n t l cs x a b) cs fs.toList 0 l' hl' (by omega) (fun i f hi=>by
        have hlt:i<xs.length:=by
         have:=(List.getElem?_eq_some_iff.1 hi).1
         simp at this
         omega
        exact ⟨_,(hfs i f (by simpa using hi)).trans (List.getElem?_eq_getElem hlt)⟩)
       simpa using this
     · cases hf
   · rename_i n e ht
     obtain ⟨l',hl',hf⟩:=Option.bind_eq_some_iff.1 hf
     split at hf
     · rename_i hlen
       obtain rfl:=Option.some.inj hf
       obtain ⟨xs,m,_,rfl,hl,hxl,hfs⟩:=DataW.trod_array ht h
       have:=array_oks (fun cs x b=>ih m e l' cs x hl' b) cs (P.cellsOf e) hlen.1 n 0 (by rw [← hlen.1];omega) (fun i hi=>by
        have hlt:i<xs.length:=by omega
        exact ⟨_,by simpa using (hfs i hi).trans (List.getElem?_eq_getElem hlt)⟩)
       simpa using this
     · cases hf
   · cases hf
end
end Go.Proofs.YthkgakelgdncjaaDoor
namespace Go.Proofs.YthkgakelgdncjaaDoor
open Go.Ep Go.ChangeShapes Go.WideShapes Go.ChangeAt Go.RowKit
set_option linter.unusedVariables false
set_option linter.unusedSimpArgs false
def okP:Leaf→PL→Bool
 | .int .u64,.b64 false _=>true
 | .int .i64,.b64 true _=>true
 | .int .u32,.b32 false _=>true
 | .int .i32,.b32 true _=>true
 | .int .u16,.b16 false _=>true
 | .int .i16,.b16 true _=>true
 | .int .u8,.b8 false _=>true
 | .int .i8,.b8 true _=>true
 | .bool,.bool _=>true
 | _,_=>false
def oksP:List Leaf→List PL→Prop
 | [],[]=>True
 | l::ls,p::ps=>okP l p=true∧oksP ls ps
 | _,_=>False
def noStr:List Leaf→Bool
 | []=>true
 | .str::_=>false
 | _::ls=>noStr ls
theorem leaf_pl {l:Leaf} {v:Value} (h:l.ok v) (hs:noStr [l]=true):∃ p,v=gP p∧okP l p=true:=by
 cases l with
 | int k=>
   obtain ⟨n,rfl,hw⟩:=h
   obtain ⟨x,rfl⟩:=vI_of k n hw
   cases k
   · exact ⟨.b8 true x,rfl,rfl⟩
   · exact ⟨.b16 true x,rfl,rfl⟩
   · exact ⟨.b32 true x,rfl,rfl⟩
   · exact ⟨.b64 true x,rfl,rfl⟩
   · exact ⟨.b8 false x,rfl,rfl⟩
   · exact ⟨.b16 false x,rfl,rfl⟩
   · exact ⟨.b32 false x,rfl,rfl⟩
   · exact ⟨.b64 false x,rfl,rfl⟩
 | bool=>obtain ⟨b,rfl⟩:=h;exact ⟨.bool b,rfl,rfl⟩
 | str=>cases hs
theorem leaves_pl:∀ {ls:List Leaf} {cs:List Value},oks ls cs→noStr ls=true→∃ ps,cs=ps.map gP∧oksP ls ps
 | [],[],_,_=>⟨[],rfl,trivial⟩
 | [],_::_,h,_=>h.elim
 | _::_,[],h,_=>h.elim
 | l::ls,c::cs,h,hs=>by
   have h1:noStr [l]=true∧noStr ls=true:=by cases l<;>simp_all [noStr]
   obtain ⟨p,e,hp⟩:=leaf_pl h.1 h1.1
   obtain ⟨ps,e',hps⟩:=leaves_pl h.2 h1.2
   exact ⟨p::ps,by rw [e,e'];rfl,hp,hps⟩
theorem oksP_len:∀ {ls:List Leaf} {ps:List PL},oksP ls ps→ps.length=ls.length
 | [],[],_=>rfl
 | _::_,_::_,h=>by simp [oksP_len h.2]
 | [],_::_,h=>h.elim
 | _::_,[],h=>h.elim
theorem open_rows {H:Type} {enc:TypeId×Value→H} {P:Program} {w:World} {base:Nat} {spare:Nat→Bool} {held:Bool} {t e:TypeId} {ls:List Leaf} (d:Nat) (ht:P.underlying t=some (.slice e)) (hf:flat P d e=some ls) (hs:noStr ls=true)
 (hz:ls.length=P.cellsOf e) (h0:0<ls.length) {v:Value} {x:DataW H×List MemPlace} {fuel:Nat} (h:DataW.trod enc P w base spare held fuel t [v]=some x) :
 (∃ ad cap,v= .slice ad 0 cap)∨∃ (b o len cap:Nat) (cs:Array Value) (T:TypeId) (fr:Nat×Nat) (us ws:List Value) (f:Nat→List PL),0<len∧len≤maxLen∧v= .slice (some ⟨b,o,none⟩) len cap ∧
   w.heap[b]? =some (.cells cs T fr)∧cs.toList.drop o=us++ws∧SegV ls.length len f us∧∀ k,oksP ls (f k):=by
 rcases Deep.open_slice ht h with ⟨hv,-⟩ | ⟨a,len,cap,m,n,D,Pl,hv,hb,hl,hm,hmm,-,hx⟩
 · exact .inl ⟨none,0,by simpa using hv⟩
 obtain rfl:v= .slice (some a) len cap:=by simpa using hv
 rcases Nat.eq_zero_or_pos len with rfl | hpos
 · exact .inl ⟨_,_,rfl⟩
 have hlm:len≤m:=by rw [hmm];split<;>omega
 obtain ⟨ba,oa,sa⟩:=a
 rw [← hz] at hx
 have cell:∀ i,i<len→∃ cs',cs'.length=ls.length∧oks ls cs'∧∀ j,j<ls.length→w.cell? (((⟨ba,oa,sa⟩:Addr).add (i*ls.length)).add j)=cs'[j]? :=by
  intro i hi
  obtain ⟨cs',h1,h2⟩:=hx i (by omega)
  obtain ⟨_,h3,h4⟩:=World.cells?_some h1
  exact ⟨cs',h3,flat_oks d n e ls cs' _ hf h2,h4⟩
 obtain ⟨c0,l0,o0,e0⟩:=cell 0 hpos
 have e00:=e0 0 h0
 obtain ⟨v0,hv0⟩:∃ v0,c0[0]? =some v0:=⟨_,List.getElem?_eq_getElem (by omega)⟩
 rw [hv0] at e00
 simp only [Nat.zero_mul,Addr.add,if_true] at e00
 have hblk:∃ cs T fr,w.heap[ba]? =some (.cells cs T fr)∧sa=none:=by
  unfold World.cell? at e00
  split at e00
  · rename_i c T fr hh
    refine ⟨c,T,fr,hh,?_⟩
    cases sa with
    | none=>rfl
    | some s=>simp at e00
  · cases e00
 obtain ⟨cs,T,fr,hh,rfl⟩:=hblk
 have cellE:∀ o,w.cell? ⟨ba,o,none⟩=cs[o]? :=fun o=>by simp [World.cell?,hh]
 have key:∀ i,i<len→∃ ps,oksP ls ps∧∀ j,j<ls.length→cs[oa + (i*ls.length + j)]? =(ps[j]?).map gP:=by
  intro i hi
  obtain ⟨cs',h1,h2,h3⟩:=cell i hi
  obtain ⟨ps,rfl,hps⟩:=leaves_pl h2 hs
  refine ⟨ps,hps,fun j hj=> ?_⟩
  have h4:=h3 j hj
  rw [Deep.add_add] at h4
  have h5:(⟨ba,oa,none⟩:Addr).add (i*ls.length + j)=⟨ba,oa + (i*ls.length + j),none⟩:=by
   unfold Addr.add
   split
   · rename_i e;rw [e,Nat.add_zero]
   · rfl
  rw [h5,cellE] at h4
  rw [h4,List.getElem?_map]
 obtain ⟨p0,hp0,-⟩:=key 0 hpos
 have each:∀ i,∃ ps,oksP ls ps∧(i<len→∀ j,j<ls.length→cs[oa + (i*ls.length + j)]? =(ps[j]?).map gP):=by
  intro i
  by_cases hi:i<len
  · obtain ⟨ps,h1,h2⟩:=key i hi
    exact ⟨ps,h1,fun _=>h2⟩
  · exact ⟨p0,hp0,fun hi'=>absurd hi' hi⟩
 obtain ⟨f,hfk⟩:∃ f:Nat→List PL,∀ i,oksP ls (f i)∧(i<len→∀ j,j<ls.length→cs[oa + (i*ls.length + j)]? =((f i)[j]?).map gP):=⟨fun i=>Classical.choose (each i),fun i=>Classical.choose_spec (each i)⟩
 have hlen:ls.length*len≤(cs.toList.drop oa).length:=by
  have h1:=(hfk (len - 1)).2 (by omega) (ls.length - 1) (by omega)
  have h2:=oksP_len (hfk (len - 1)).1
  rw [List.getElem?_eq_getElem (by omega)] at h1
  have h3:=(Array.getElem?_eq_some_iff.1 h1).1
  rw [List.length_drop,show cs.toList.length=cs.size from rfl]
  have h4:(len - 1)*ls.length + ls.length=ls.length*len:=by
   rw [Nat.mul_comm ls.length len]
   obtain ⟨k,rfl⟩:∃ k,len=k + 1:=⟨len - 1,by omega⟩
   rw [Nat.add_sub_cancel,Nat.add_mul,Nat.one_mul]
  omega
 refine .inr ⟨ba,oa,len,cap,cs,T,fr,(cs.toList.drop oa).take (ls.length*len),(cs.toList.drop oa).drop (ls.length*len),f,hpos,by omega,rfl,hh,(List.take_append_drop _ _).symm,⟨by rw [List.length_take];omega,fun k hk=>⟨oksP_len (hfk k).1,fun j hj=> ?_⟩⟩,fun k=>(hfk k).1⟩
 rw [List.getElem?_take,if_pos,List.getElem?_drop,Array.getElem?_toList,Nat.mul_comm ls.length k]
 · exact (hfk k).2 hk j hj
 · exact Nat.lt_of_lt_of_le (Nat.add_lt_add_left hj _) (Go.Ep.mul_lt_of hk)
theorem oksP_cons {l:Leaf} {ls:List Leaf} {ps:List PL} (h:oksP (l::ls) ps):∃ p r,ps=p::r∧okP l p=true∧oksP ls r:=by
 cases ps with
 | nil=>exact h.elim
 | cons p r=>exact ⟨p,r,rfl,h.1,h.2⟩
theorem oksP_nil {ps:List PL} (h:oksP [] ps):ps=[]:=by
 cases ps with
 | nil=>rfl
 | cons p r=>exact h.elim
theorem ok_u64 {p:PL} (h:okP (.int .u64) p=true):∃ x:BitVec 64,p= .b64 false x:=by
 cases p with
 | bool b=>simp [okP] at h
 | str b=>simp [okP] at h
 | _ s x=>cases s<;>first | exact ⟨x,rfl⟩ | (simp [okP] at h)
theorem ok_i32 {p:PL} (h:okP (.int .i32) p=true):∃ x:BitVec 32,p= .b32 true x:=by
 cases p with
 | bool b=>simp [okP] at h
 | str b=>simp [okP] at h
 | _ s x=>cases s<;>first | exact ⟨x,rfl⟩ | (simp [okP] at h)
theorem ok_i16 {p:PL} (h:okP (.int .i16) p=true):∃ x:BitVec 16,p= .b16 true x:=by
 cases p with
 | bool b=>simp [okP] at h
 | str b=>simp [okP] at h
 | _ s x=>cases s<;>first | exact ⟨x,rfl⟩ | (simp [okP] at h)
theorem ok_u8 {p:PL} (h:okP (.int .u8) p=true):∃ x:BitVec 8,p= .b8 false x:=by
 cases p with
 | bool b=>simp [okP] at h
 | str b=>simp [okP] at h
 | _ s x=>cases s<;>first | exact ⟨x,rfl⟩ | (simp [okP] at h)
theorem ok_bool {p:PL} (h:okP .bool p=true):∃ x:Bool,p= .bool x:=by
 cases p with
 | bool b=>exact ⟨b,rfl⟩
 | str b=>simp [okP] at h
 | _ s x=>simp [okP] at h
end Go.Proofs.YthkgakelgdncjaaDoor
namespace Go.Proofs.YthkgakelgdncjaaDoor
open Go.Ep Go.RowKit
set_option linter.unusedVariables false
set_option linter.unusedSimpArgs false
structure IN where
 o:BitVec 8
 d:BitVec 8
 s:BitVec 8
 f:BitVec 16
 i:BitVec 32
theorem IN.ext':∀ {x y:IN},x.o=y.o→x.d=y.d→x.s=y.s→x.f=y.f→x.i=y.i→x=y
 | ⟨_,_,_,_,_⟩,⟨_,_,_,_,_⟩,rfl,rfl,rfl,rfl,rfl=>rfl
abbrev IT:=Nat→IN
abbrev inP (x:IN):List PL:=[.b8 false x.o,.b8 false x.d,.b8 false x.s,.b16 true x.f,.b32 true x.i]
abbrev inF (x:IT):Nat→List PL:=fun k=>[.b8 false (x k).o,.b8 false (x k).d,.b8 false (x k).s,.b16 true (x k).f,.b32 true (x k).i]
abbrev inL (x:IN):List L:=[.b8 false x.o,.b8 false x.d,.b8 false x.s,.b16 true x.f,.b32 true x.i]
def q8:PL→BitVec 8 | .b8 _ x=>x | _=>0#8
def q16:PL→BitVec 16 | .b16 _ x=>x | _=>0#16
def q32:PL→BitVec 32 | .b32 _ x=>x | _=>0#32
def nthQ:List PL→Nat→PL
 | [],_=> .bool false
 | x::_,0=>x
 | _::xs,n + 1=>nthQ xs n
def inOf (f:Nat→List PL):IT:=fun k=>⟨q8 (nthQ (f k) 0),q8 (nthQ (f k) 1),q8 (nthQ (f k) 2),q16 (nthQ (f k) 3),q32 (nthQ (f k) 4)⟩
theorem inOf_inF (x:IT):inOf (inF x)=x:=rfl
theorem slt_nat {a b:Nat} (ha:a<9223372036854775808) (hb:b<9223372036854775808):(BitVec.ofNat 64 a).slt (BitVec.ofNat 64 b)=decide (a<b):=by
 rw [BitVec.slt_eq_decide,toInt_ofNat ha,toInt_ofNat hb]
 simp
theorem sle_nat {a b:Nat} (ha:a<9223372036854775808) (hb:b<9223372036854775808):(BitVec.ofNat 64 a).sle (BitVec.ofNat 64 b)=decide (a≤b):=by
 rw [BitVec.sle_eq_decide,toInt_ofNat ha,toInt_ofNat hb]
 simp
theorem lt_of_slt {a b:Nat} (ha:a<9223372036854775808) (hb:b<9223372036854775808) (h:(BitVec.ofNat 64 a).slt (BitVec.ofNat 64 b)=true):a<b:=by
 rw [slt_nat ha hb] at h;simpa using h
theorem ge_of_slt {a b:Nat} (ha:a<9223372036854775808) (hb:b<9223372036854775808) (h:(BitVec.ofNat 64 a).slt (BitVec.ofNat 64 b)=false):b≤a:=by
 rw [slt_nat ha hb] at h;simpa using h
theorem nat_ofNat {a:Nat} (ha:a<9223372036854775808):(BitVec.ofNat 64 a).toNat=a:=by
 rw [BitVec.toNat_ofNat,Nat.mod_eq_of_lt (by omega)]
theorem ix_ofNat {a n:Nat} (ha:a<9223372036854775808) (h:a<n):0≤(BitVec.ofNat 64 a).toInt∧(BitVec.ofNat 64 a).toNat<n:=by
 rw [toInt_ofNat ha,nat_ofNat ha];exact ⟨by omega,h⟩
def jmpB (o:BitVec 8):Bool:=(o &&& 7#8==5#8||o &&& 7#8==6#8)&&(o &&& 240#8 != 128#8&&o &&& 240#8 != 144#8)
def alwB (o:BitVec 8):Bool:=jmpB o&&o &&& 240#8==0#8
def endB (o:BitVec 8):Bool:=(o &&& 7#8==5#8||o &&& 7#8==6#8)&&o &&& 240#8==144#8
def szV (o:BitVec 8):BitVec 64:=if o==24#8 then 2#64 else 1#64
def szN (o:BitVec 8):Nat:=if o==24#8 then 2 else 1
theorem szV_nat (o:BitVec 8):szV o=BitVec.ofNat 64 (szN o):=by unfold szV szN;split<;>rfl
def hf (x:IT):Nat→Bool
 | 0=>false
 | p + 1=> !hf x p&&((x p).o==24#8)
theorem hf_next (x:IT) {a:Nat} (h:hf x a=false):hf x (a + szN (x a).o)=false:=by
 unfold szN
 cases e:(x a).o==24#8 with
 | true=>
   show hf x (a + 1 + 1)=false
   rw [hf,hf,h,e];rfl
 | false=>
   show hf x (a + 1)=false
   rw [hf,h,e];rfl
theorem hf_half (x:IT) {a j:Nat} (h:hf x a=false) (h1:a<j) (h2:j<a + szN (x a).o):hf x j=true:=by
 unfold szN at h2
 cases e:(x a).o==24#8 with
 | true=>
   rw [e] at h2
   obtain rfl:j=a + 1:=by simp at h2;omega
   rw [hf,h,e];rfl
 | false=>rw [e] at h2;simp at h2;omega
abbrev bF (g:Nat→Bool):Nat→List PL:=fun j=>[.bool (g j)]
theorem bF_upd (g:Nat→Bool) (k:Nat) (v:Bool):updF (bF g) k 0 [.bool v]=bF (fun j=>if j=k then v else g j):=by
 funext j
 by_cases h:j=k<;>simp [updF,mergeP,pickP,h]
def fsB (x:IT) (a:Nat):Nat→Bool:=fun j=>decide (j<a)&& !hf x j
theorem fsB_go (x:IT) {a k:Nat} (e:k=a) (h:hf x a=false):updF (bF (fsB x a)) k 0 [.bool true]=bF (fsB x (a + szN (x a).o)):=by
 subst e
 rw [bF_upd]
 funext j
 have key:(if j=k then true else fsB x k j)=fsB x (k + szN (x k).o) j:=by
  have hs:1≤szN (x k).o:=by unfold szN;split<;>omega
  by_cases e:j=k
  · subst e
    rw [if_pos rfl,fsB,h,decide_eq_true (by omega)];rfl
  · rw [if_neg e]
    unfold fsB
    by_cases h1:j<k
    · rw [decide_eq_true h1,decide_eq_true (by omega)]
    · by_cases h2:j<k + szN (x k).o
      · rw [decide_eq_false h1,hf_half x h (by omega) h2];simp
      · rw [decide_eq_false h1,decide_eq_false h2]
 show [PL.bool (if j=k then true else fsB x k j)]=_
 rw [key]
theorem fsB_end (x:IT) {a j:Nat} (h:j<a):fsB x a j= !hf x j:=by rw [fsB,decide_eq_true h];rfl
def aloneE (x:IT) (n:Nat) (p m:BitVec 64) (w:Bool):BitVec 64:=
 if iCheck (x p.toNat).o (x p.toNat).d (x p.toNat).s (x p.toNat).f (x p.toNat).i w != 0#64 then iCheck (x p.toNat).o (x p.toNat).d (x p.toNat).s (x p.toNat).f (x p.toNat).i w
 else if (x p.toNat).o==133#8 then (if (x p.toNat).i==1#32||((x p.toNat).i==2#32||((x p.toNat).i==3#32||(x p.toNat).i==7#32)) then 0#64 else 45#64)
 else if (x p.toNat).o==24#8 then
  if (BitVec.ofNat 64 n).sle (p + 1#64)|| !((x (p + 1#64).toNat).o==0#8&&((x (p + 1#64).toNat).d==0#8&&((x (p + 1#64).toNat).s==0#8&&(x (p + 1#64).toNat).f==0#16))) then 41#64
  else if (x p.toNat).s==1#8&&((x p.toNat).i.slt 0#32||(m.sle ((x p.toNat).i.signExtend 64)||(x (p + 1#64).toNat).i != 0#32)) then 44#64 else 0#64
 else 0#64
def toV (x:IT) (p:BitVec 64):BitVec 64:=p + 1#64 + (x p.toNat).f.signExtend 64
def wayE (x:IT) (n:Nat) (p:BitVec 64):BitVec 64:=
 if jmpB (x p.toNat).o&&((toV x p).slt 0#64||(BitVec.ofNat 64 n).sle (toV x p)) then 40#64
 else if jmpB (x p.toNat).o&&hf x (toV x p).toNat then 41#64
 else if !endB (x p.toNat).o&&(!alwB (x p.toNat).o&&(BitVec.ofNat 64 n).sle (p + szV (x p.toNat).o)) then 43#64
 else 0#64
def fstN (p:Nat→Bool) (n:Nat):Option Nat:=(List.range n).find? p
theorem fstN_some {p:Nat→Bool} {n k:Nat} (hk:k<n) (h:p k=true) (hj:∀ j,j<k→p j=false):fstN p n=some k:=by
 unfold fstN
 rw [List.find?_range_eq_some]
 exact ⟨h,by simpa using hk,fun j hjk=>by simp [hj j hjk]⟩
theorem fstN_none {p:Nat→Bool} {n:Nat} (h:∀ j,j<n→p j=false):fstN p n=none:=by
 unfold fstN
 rw [List.find?_eq_none]
 intro j hj
 have:=h j (by simpa using hj)
 simp [this]
abbrev bv (p:Nat):BitVec 64:=BitVec.ofNat 64 p
def badA (x:IT) (n:Nat) (m:BitVec 64) (w:Bool) (p:Nat):Bool:= !hf x p&&aloneE x n (bv p) m w != 0#64
def badW (x:IT) (n:Nat) (p:Nat):Bool:= !hf x p&&wayE x n (bv p) != 0#64
def succ (x:IT) (p:Nat):List Nat:=
 if endB (x p).o then [] else
 if alwB (x p).o then [(toV x (bv p)).toNat] else
 if jmpB (x p).o then [p + szN (x p).o,(toV x (bv p)).toNat] else [p + szN (x p).o]
inductive Reach (x:IT):Nat→Prop
 | zero:Reach x 0
 | step {p q:Nat} (h:Reach x p) (hq:q∈succ x p):Reach x q
open Classical in
noncomputable def reachB (x:IT) (p:Nat):Bool:=decide (Reach x p)
def mostN (w:Bool):Nat:=if w then 192 else 64
noncomputable def chk4 (x:IT) (n:Nat) (m:BitVec 64) (w:Bool):BitVec 64×BitVec 64:=
 if n=0∨mostN w<n then (0#64,3#64) else
 match fstN (badA x n m w) n with
 | some k=>(bv k,aloneE x n (bv k) m w)
 | none=>match fstN (badW x n) n with
   | some k=>(bv k,wayE x n (bv k))
   | none=>match fstN (fun p=> !hf x p&& !reachB x p) n with
     | some k=>(bv k,42#64)
     | none=>(0#64,0#64)
structure WaysOK (x:IT) (n:Nat):Prop where
 small:n≤8000
 ok:∀ p,p<n→hf x p=false→wayE x n (bv p)=0#64
theorem toV_lt {x:IT} {n p:Nat} (W:WaysOK x n) (hp:p<n) (hh:hf x p=false) (hj:jmpB (x p).o=true):(toV x (bv p)).toNat<n∧hf x (toV x (bv p)).toNat=false∧(toV x (bv p)).slt 0#64=false∧(BitVec.ofNat 64 n).sle (toV x (bv p))=false:=by
 have hb:(bv p).toNat=p:=nat_ofNat (by have:=W.small;omega)
 have h:=W.ok p hp hh
 unfold wayE at h
 rw [hb,hj] at h
 simp only [Bool.true_and] at h
 split at h
 · cases h
 · rename_i h1
   split at h
   · cases h
   · rename_i h2
     simp only [Bool.or_eq_true,not_or,Bool.not_eq_true] at h1 h2
     refine ⟨?_,h2,h1⟩
     have h3:=h1.1
     have h4:=h1.2
     have hn:n<9223372036854775808:=by have:=W.small;omega
     rw [BitVec.slt_eq_decide,show (0#64).toInt=0 by decide] at h3
     rw [BitVec.sle_eq_decide,toInt_ofNat hn] at h4
     simp only [decide_eq_false_iff_not] at h3 h4
     rw [BitVec.toInt_eq_toNat_cond] at h3 h4
     have:=(toV x (bv p)).isLt
     split at h3<;>omega
theorem fall_lt {x:IT} {n p:Nat} (W:WaysOK x n) (hp:p<n) (hh:hf x p=false) (he:endB (x p).o=false) (ha:alwB (x p).o=false):p + szN (x p).o<n:=by
 have hb:(bv p).toNat=p:=nat_ofNat (by have:=W.small;omega)
 have h:=W.ok p hp hh
 unfold wayE at h
 rw [hb,he,ha] at h
 split at h
 · cases h
 · split at h
   · cases h
   · split at h
     · cases h
     · rename_i h3
       have hs:szN (x p).o≤2:=by unfold szN;split<;>omega
       have e:bv p + szV (x p).o=BitVec.ofNat 64 (p + szN (x p).o):=by rw [szV_nat];exact (BitVec.ofNat_add _ _).symm
       have hn:=W.small
       rw [e,sle_nat (by omega) (by omega)] at h3
       simpa using h3
theorem succ_lt {x:IT} {n p q:Nat} (W:WaysOK x n) (hp:p<n) (hh:hf x p=false) (hq:q∈succ x p):q<n∧hf x q=false:=by
 unfold succ at hq
 have hal:alwB (x p).o=true→jmpB (x p).o=true:=fun h=>by simp only [alwB,Bool.and_eq_true] at h;exact h.1
 split at hq
 · simp at hq
 · rename_i he
   have he:endB (x p).o=false:=by simpa using he
   split at hq
   · rename_i ha
     obtain rfl:q=(toV x (bv p)).toNat:=by simpa using hq
     have:=toV_lt W hp hh (hal ha)
     exact ⟨this.1,this.2.1⟩
   · rename_i ha
     have ha:alwB (x p).o=false:=by simpa using ha
     split at hq
     · rename_i hj
       rcases List.mem_cons.1 hq with rfl | hq
       · exact ⟨fall_lt W hp hh he ha,hf_next x hh⟩
       · obtain rfl:q=(toV x (bv p)).toNat:=by simpa using hq
         have:=toV_lt W hp hh hj
         exact ⟨this.1,this.2.1⟩
     · obtain rfl:q=p + szN (x p).o:=by simpa using hq
       exact ⟨fall_lt W hp hh he ha,hf_next x hh⟩
theorem reach_lt {x:IT} {n:Nat} (W:WaysOK x n) (h0:0<n) {p:Nat} (h:Reach x p):p<n∧hf x p=false:=by
 induction h with
 | zero=>exact ⟨h0,rfl⟩
 | step h hq ih=>exact succ_lt W ih.1 ih.2 hq
def cnt (g:Nat→Bool):Nat→Nat
 | 0=>0
 | n + 1=>cnt g n + (!g n).toNat
theorem cnt_le {g g':Nat→Bool} (h:∀ j,g j=true→g' j=true):∀ n,cnt g' n≤cnt g n
 | 0=>Nat.le_refl _
 | n + 1=>by
   have:=cnt_le h n
   simp only [cnt]
   cases hg:g n with
   | true=>rw [h n hg];simpa using this
   | false=>cases g' n<;>simp<;>omega
def mark (g:Nat→Bool) (k:Nat):Nat→Bool:=fun j=>if j=k then true else g j
theorem mark_self (g:Nat→Bool) (k:Nat):mark g k k=true:=if_pos rfl
theorem mark_other (g:Nat→Bool) {k j:Nat} (h:j≠k):mark g k j=g j:=if_neg h
theorem mark_mono (g:Nat→Bool) (k:Nat) {j:Nat} (h:g j=true):mark g k j=true:=by
 by_cases e:j=k
 · subst e;exact mark_self g j
 · rw [mark_other g e];exact h
theorem cnt_mark {g:Nat→Bool} {k:Nat} (hk:g k=false):∀ n,k<n→cnt (mark g k) n + 1=cnt g n
 | 0,h=>by omega
 | n + 1,h=>by
   simp only [cnt]
   by_cases e:n=k
   · subst e
     have:∀ m,m≤n→cnt (mark g n) m=cnt g m:=by
      intro m
      induction m with
      | zero=>intro _;rfl
      | succ m ih=>intro hm;simp only [cnt];rw [ih (by omega),mark_other g (show m≠n by omega)]
     rw [this n (Nat.le_refl _),mark_self,hk];rfl
   · have:=cnt_mark hk n (by omega)
     rw [mark_other g e];omega
mutual
def visF (x:IT):Nat→Nat→(Nat→Bool)→(Nat→Bool)
 | 0,_,g=>g
 | m + 1,p,g=>if g p then g else visL x m (succ x p) (mark g p)
def visL (x:IT):Nat→List Nat→(Nat→Bool)→(Nat→Bool)
 | _,[],g=>g
 | m,q::r,g=>visL x m r (visF x m q g)
end
end Go.Proofs.YthkgakelgdncjaaDoor
