/- Contracts of functions that write memory of their callers: what is reached from the arguments gets names 0, 1, ..; what is not reached stays. Conditions: as typed. -/
import Derived.Test.YthkgakelgdncjaaDoorPr
namespace Go.Ep
open Go.RowKit
set_option linter.unusedVariables false
set_option linter.unusedSimpArgs false
def posN (i:Nat):List Nat→Nat→Nat
 | [],k=>k
 | j::r,k=>match Nat.beq i j with
   | true=>k
   | false=>posN i r (k + 1)
def canCaps (ns:List Nat):List (Nat×Nat)→List (Nat×Nat)
 | []=>[]
 | (i,o)::r=>(posN i ns 0,o)::canCaps ns r
def L.can (ns:List Nat):L→L
 | .ptr i o=> .ptr (posN i ns 0) o
 | .eptr i o n k=> .eptr (posN i ns 0) o n k
 | .slc i o n c=> .slc (posN i ns 0) o n c
 | .rptr i o z k p=> .rptr (posN i ns 0) o z k p
 | .rsl i n=> .rsl (posN i ns 0) n
 | .rsc i z k q n=> .rsc (posN i ns 0) z k q n
 | .imap i=> .imap (posN i ns 0)
 | .clo f caps=> .clo f (canCaps ns caps)
 | l=>l
def canLs (ns:List Nat):List L→List L
 | []=>[]
 | l::r=>l.can ns::canLs ns r
def canVs (ns:List Nat):List (Bool×List L)→List (Bool×List L)
 | []=>[]
 | (b,ls)::r=>(b,canLs ns ls)::canVs ns r
def AV.can (ns:List Nat):AV→AV
 | .one l=> .one (l.can ns)
 | .agg ls=> .agg (canLs ns ls)
 | .tup vs=> .tup (canVs ns vs)
def canAs (ns:List Nat):List AV→List AV
 | []=>[]
 | v::r=>v.can ns::canAs ns r
def Blk.can (ns:List Nat):Blk→Blk
 | .cells T ls=> .cells T (canLs ns ls)
 | .ro T ls=> .ro T (canLs ns ls)
 | .vec T ls=> .vec T (canLs ns ls)
 | b=>b
def chOf (h:List (Nat×Blk)) (ns:List Nat):List Nat→Nat→Option (List (Nat×Blk))
 | [],_=>some []
 | i::r,k=>match look h i,chOf h ns r (k + 1) with
   | some b,some c=>some ((k,b.can ns)::c)
   | _,_=>none
def reachN (h:List (Nat×Blk)):Nat→List Nat→List Nat→List Nat
 | 0,_,acc=>acc
 | _ + 1,[],acc=>acc
 | n + 1,i::r,acc=>match inNs i acc with
   | true=>reachN h n r acc
   | false=>match look h i with
     | some b=>reachN h n (r++b.names) (acc++[i])
     | none=>reachN h n r acc
def subNs (ns:List Nat):List Nat→Bool
 | []=>true
 | i::r=>match inNs i ns with
   | true=>subNs ns r
   | false=>false
def closedIn (h:List (Nat×Blk)) (ns:List Nat):List Nat→Bool
 | []=>true
 | i::r=>match look h i with
   | some b=>match subNs ns b.names with
     | true=>closedIn h ns r
     | false=>false
   | none=>false
def distN:List Nat→Bool
 | []=>true
 | i::r=>match inNs i r with
   | true=>false
   | false=>distN r
abbrev SpW:=List AV→List (Nat×Blk)→Option (Cond×AV×List (Nat×Blk))
def tabW:List (Nat×SpW)→FuncId→Option SpW
 | [],_=>none
 | (g,sp)::r,f=>match Nat.beq g f with
   | true=>some sp
   | false=>tabW r f
def nthN:List Nat→Nat→Option Nat
 | [],_=>none
 | i::_,0=>some i
 | _::r,k + 1=>nthN r k
def nthD (ns:List Nat) (k:Nat):Nat:=match nthN ns k with
 | some i=>i
 | none=>0
def uncCaps (ns:List Nat):List (Nat×Nat)→List (Nat×Nat)
 | []=>[]
 | (i,o)::r=>(nthD ns i,o)::uncCaps ns r
def L.unc (ns:List Nat):L→L
 | .ptr i o=> .ptr (nthD ns i) o
 | .eptr i o n k=> .eptr (nthD ns i) o n k
 | .slc i o n c=> .slc (nthD ns i) o n c
 | .rptr i o z k p=> .rptr (nthD ns i) o z k p
 | .rsl i n=> .rsl (nthD ns i) n
 | .rsc i z k q n=> .rsc (nthD ns i) z k q n
 | .imap i=> .imap (nthD ns i)
 | .clo f caps=> .clo f (uncCaps ns caps)
 | l=>l
def uncLs (ns:List Nat):List L→List L
 | []=>[]
 | l::r=>l.unc ns::uncLs ns r
def Blk.unc (ns:List Nat):Blk→Blk
 | .cells T ls=> .cells T (uncLs ns ls)
 | .ro T ls=> .ro T (uncLs ns ls)
 | .vec T ls=> .vec T (uncLs ns ls)
 | b=>b
def ltNs (ns:List Nat):List Nat→Bool
 | []=>true
 | i::r=>match nthN ns i with
   | some _=>ltNs ns r
   | none=>false
noncomputable def setAllK (ns:List Nat) (ups:List (Nat×Blk)):List (Nat×Blk)→(List (Nat×Blk)→Prop)→Prop:=
 List.rec (motive:=fun _=>List (Nat×Blk)→(List (Nat×Blk)→Prop)→Prop) (fun h k=>k h)
  (fun p _ ih h k=>match p with
    | (j,b)=>match nthN ns j with
      | some i=>match look h i with
        | some c=>match c.own,b.own,ltNs ns b.names with
          | true,true,true=>forceB (b.unc ns) fun b=>setB h i b fun h=>ih h k
          | _,_,_=>Stuck "write"
        | none=>Stuck "write"
      | none=>Stuck "write") ups
noncomputable def wInl (ws:List (Nat×SpW)) (base:FuncId→Nat→List AV→List (Nat×Blk)→(AV→List (Nat×Blk)→Prop)→Prop):FuncId→Nat→List AV→List (Nat×Blk)→(AV→List (Nat×Blk)→Prop)→Prop:=
 fun f tp args h K=>match tabW ws f with
  | none=>base f tp args h K
  | some sp=>forceNs (reachN h 60 (anames args) []) fun ns=>match subNs ns (anames args),closedIn h ns ns,distN ns,chOf h ns ns 0 with
    | true,true,true,some ch=>match sp (canAs ns args) ch with
      | some (c,v,ups)=>withC c (forceA v fun v=>match v.names with
        | []=>setAllK ns ups h fun h'=>K v h'
        | _=>Stuck "write")
      | none=>base f tp args h K
    | _,_,_,_=>Stuck "reach"
def lookU:List (Nat×Blk)→Nat→Option Blk→Option Blk
 | [],_,d=>d
 | (j,b)::r,i,d=>match Nat.beq j i with
   | true=>lookU r i (some b)
   | false=>lookU r i d
def CallsW (P:Program) (G:World→Prop) (f:FuncId) (args:List AV) (ch:List (Nat×Blk)) (v:AV) (ups:List (Nat×Blk)):Prop:=
 (∀ p∈ups,∀ m∈p.2.names,look ch m≠none)→(∀ m,look ch m≠none→m<ch.length)→(∀ v∈args,∀ m∈v.names,look ch m≠none) →
   ∀ (b:Nat) (w0:World) (ρ:Nat→Loc) (us:List Value) (w:World),G w0→b=w0.heap.size→RelAs ρ args us→RelH b w0 ρ (look ch) w →
     Calls P f us.toArray w (fun e w'=>∃ u,e= .returned u∧RelA ρ v u∧(∀ i d,look ch i=some d→∀ d',lookU ups i (some d)=some d'→RelB ρ (ρ i) d' w'.heap[(ρ i).b]?)∧Below 0 w w' ∧
      ∀ k,k<w.heap.size→(∀ m c,look ch m=some c→c.own=true→(ρ m).b≠k)→w'.heap[k]? =w.heap[k]?)
structure EntryW (P:Program) (G:World→Prop) (f:FuncId) (sp:SpW):Prop where
 fn:∃ fn,P.funcs[f]? =some fn∧(fn.name== "runtime.NumGoroutine")=false∧fn.body.isNone=false
 calls:∀ args ch c v ups,sp args ch=some (c,v,ups)→c.holds→v.names=[]→(∀ p∈ups,∀ m∈p.2.names,look ch m≠none)→(∀ m,look ch m≠none→m<ch.length)→(∀ v∈args,∀ m∈v.names,look ch m≠none) →
  ∀ (b:Nat) (w0:World) (ρ:Nat→Loc) (us:List Value) (w:World),G w0→b=w0.heap.size→RelAs ρ args us→RelH b w0 ρ (look ch) w →
    Calls P f us.toArray w (fun e w'=>∃ u,e= .returned u∧RelA ρ v u∧(∀ i d,look ch i=some d→∀ d',lookU ups i (some d)=some d'→RelB ρ (ρ i) d' w'.heap[(ρ i).b]?)∧Below 0 w w' ∧
     ∀ k,k<w.heap.size→(∀ m c,look ch m=some c→c.own=true→(ρ m).b≠k)→w'.heap[k]? =w.heap[k]?)
section
variable {P : Program} {G : World → Prop}
theorem inNs_yes {i:Nat}:∀ {l:List Nat},inNs i l=true→i∈l
 | [],h=>by cases h
 | j::r,h=>by
   simp only [inNs] at h
   split at h
   · rename_i he
     have:i=j:=by simpa using he
     simp [this]
   · exact List.mem_cons_of_mem _ (inNs_yes h)
theorem subNs_spec {ns:List Nat}:∀ {l:List Nat},subNs ns l=true→∀ i∈l,i∈ns
 | [],_,i,h=>by simp at h
 | j::r,e,i,h=>by
   simp only [subNs] at e
   split at e
   · rename_i hj
     rcases List.mem_cons.1 h with rfl | h
     · exact inNs_yes hj
     · exact subNs_spec e i h
   · cases e
theorem closedIn_spec {h:List (Nat×Blk)} {ns:List Nat}:∀ {l:List Nat},closedIn h ns l=true→∀ i∈l,∃ b,look h i=some b∧∀ m∈b.names,m∈ns
 | [],_,i,hi=>by simp at hi
 | j::r,e,i,hi=>by
   simp only [closedIn] at e
   split at e
   · rename_i b hb
     split at e
     · rename_i hs
       rcases List.mem_cons.1 hi with rfl | hi
       · exact ⟨b,hb,subNs_spec hs⟩
       · exact closedIn_spec e i hi
     · cases e
   · cases e
theorem distN_spec:∀ {l:List Nat},distN l=true→l.Nodup
 | [],_=>List.nodup_nil
 | i::r,e=>by
   simp only [distN] at e
   split at e
   · cases e
   · rename_i hi
     exact List.nodup_cons.2 ⟨inNs_no hi,distN_spec e⟩
theorem nodup_inj {α:Type _} {i:α}:∀ {l:List α},l.Nodup→∀ {j k:Nat},l[j]? =some i→l[k]? =some i→j=k
 | [],_,_,_,h,_=>by simp at h
 | x::l,hn,0,0,_,_=>rfl
 | x::l,hn,0,k + 1,h1,h2=>by
   simp only [List.getElem?_cons_zero,Option.some.injEq] at h1
   simp only [List.getElem?_cons_succ] at h2
   exact absurd (h1 ▸ List.mem_of_getElem? h2) (List.nodup_cons.1 hn).1
 | x::l,hn,j + 1,0,h1,h2=>by
   simp only [List.getElem?_cons_zero,Option.some.injEq] at h2
   simp only [List.getElem?_cons_succ] at h1
   exact absurd (h2 ▸ List.mem_of_getElem? h1) (List.nodup_cons.1 hn).1
 | x::l,hn,j + 1,k + 1,h1,h2=>by
   simp only [List.getElem?_cons_succ] at h1 h2
   rw [nodup_inj (List.nodup_cons.1 hn).2 h1 h2]
theorem lookU_or {d':Blk} {j:Nat}:∀ (l:List (Nat×Blk)) (o:Option Blk),lookU l j o=some d'→o=some d'∨∃ q∈l,q.2=d'
 | [],o,h=> .inl h
 | (x,b)::l,o,h=>by
   simp only [lookU] at h
   split at h
   · rcases lookU_or l _ h with h | ⟨q,h1,h2⟩
     · exact .inr ⟨(x,b),by simp,Option.some.inj h⟩
     · exact .inr ⟨q,by simp [h1],h2⟩
   · rcases lookU_or l _ h with h | ⟨q,h1,h2⟩
     · exact .inl h
     · exact .inr ⟨q,by simp [h1],h2⟩
theorem nthN_eq:∀ (l:List Nat) (k:Nat),nthN l k=l[k]?
 | [],_=>rfl
 | _::_,0=>rfl
 | _::l,k + 1=>by rw [nthN,nthN_eq l k];rfl
theorem posN_get {i:Nat}:∀ {ns:List Nat} {k:Nat},i∈ns→∃ j,posN i ns k=k + j∧ns[j]? =some i
 | [],_,h=>by simp at h
 | x::r,k,h=>by
   simp only [posN]
   split
   · rename_i he
     have:i=x:=by simpa using he
     exact ⟨0,rfl,by simp [this]⟩
   · rename_i he
     have hne:=Nat.ne_of_beq_eq_false he
     have h':i∈r:=by
      rcases List.mem_cons.1 h with h | h
      · exact absurd h hne
      · exact h
     obtain ⟨j,h1,h2⟩:=posN_get (k:=k + 1) h'
     exact ⟨j + 1,by rw [h1];omega,by simpa using h2⟩
def locN (ρ:Nat→Loc) (ns:List Nat):Nat→Loc:=fun k=>match ns[k]? with
 | some i=>ρ i
 | none=>⟨0,0,0⟩
theorem locN_pos {ρ:Nat→Loc} {ns:List Nat} {i:Nat} (h:i∈ns):locN ρ ns (posN i ns 0)=ρ i:=by
 obtain ⟨j,h1,h2⟩:=posN_get (k:=0) h
 rw [h1,Nat.zero_add,locN,h2]
theorem capVals_can {ρ:Nat→Loc} {ns:List Nat}:∀ {caps:List (Nat×Nat)},(∀ m∈capN caps,m∈ns)→capVals (locN ρ ns) (canCaps ns caps)=capVals ρ caps
 | [],_=>rfl
 | (i,o)::r,h=>by
   simp only [canCaps,capVals]
   rw [locN_pos (h i (by simp [capN])),capVals_can fun m hm=>h m (by simp [capN,hm])]
theorem gL_can {ρ:Nat→Loc} {ns:List Nat} {l:L} (h:∀ m∈l.names,m∈ns):gL (locN ρ ns) (l.can ns)=gL ρ l:=by
 cases l with
 | ptr i o=>simp [L.can,gL,locN_pos (h i (by simp [L.names]))]
 | eptr i o n k=>simp [L.can,gL,locN_pos (h i (by simp [L.names]))]
 | slc i o n c=>simp [L.can,gL,locN_pos (h i (by simp [L.names]))]
 | rptr i o z k p=>simp [L.can,gL,locN_pos (h i (by simp [L.names]))]
 | rsl i n=>simp [L.can,gL,locN_pos (h i (by simp [L.names]))]
 | rsc i z k q n=>simp [L.can,gL,locN_pos (h i (by simp [L.names]))]
 | imap i=>simp [L.can,gL,locN_pos (h i (by simp [L.names]))]
 | clo f caps=>simp only [L.can,gL];rw [capVals_can fun m hm=>h m (by simpa [L.names] using hm)]
 | _=>rfl
theorem can_junk {ns:List Nat} {l:L}:l.can ns= .junk ↔ l= .junk:=by cases l<;>simp [L.can]
theorem can_relL {ρ:Nat→Loc} {ns:List Nat} {l:L} {v:Value} (h:∀ m∈l.names,m∈ns):RelL (locN ρ ns) (l.can ns) v ↔ RelL ρ l v:=by
 unfold RelL
 rw [gL_can h]
 simp [can_junk]
theorem can_seg {ns:List Nat} {l:L}:isSeg (l.can ns)=isSeg l:=by cases l<;>rfl
theorem can_relLs {ρ:Nat→Loc} {ns:List Nat}:∀ {ls:List L} {vs:List Value},(∀ m∈lnames ls,m∈ns)→(RelLs (locN ρ ns) (canLs ns ls) vs ↔ RelLs ρ ls vs)
 | [],_,_=>Iff.rfl
 | l::ls,vs,h=>by
   have h1:∀ m∈l.names,m∈ns:=fun m hm=>h m (by simp [lnames,hm])
   have h2:∀ m∈lnames ls,m∈ns:=fun m hm=>h m (by simp [lnames,hm])
   have hI:∀ us,RelI (locN ρ ns) (l.can ns) us ↔ RelI ρ l us:=fun us=>by
    cases hs:isSeg l with
    | true=>cases l<;>simp [isSeg] at hs;exact Iff.rfl
    | false=>rw [relI_one (by rw [can_seg,hs]),relI_one hs];simp only [can_relL h1]
   show (∃ us ws,vs=us++ws∧RelI (locN ρ ns) (l.can ns) us∧RelLs (locN ρ ns) (canLs ns ls) ws) ↔ ∃ us ws,vs=us++ws∧RelI ρ l us∧RelLs ρ ls ws
   simp only [hI,can_relLs h2]
theorem can_relVs {ρ:Nat→Loc} {ns:List Nat}:∀ {ls:List (Bool×List L)} {vs:List Value},(∀ m∈vnames ls,m∈ns)→RelVs ρ ls vs→RelVs (locN ρ ns) (canVs ns ls) vs
 | [],[],_,_=>trivial
 | (true,ls)::r,v::vs,h,⟨⟨cs,e,h1⟩,h2⟩=>⟨⟨cs,e,(can_relLs fun m hm=>h m (by simp [vnames,hm])).2 h1⟩,can_relVs (fun m hm=>h m (by simp [vnames,hm])) h2⟩
 | (false,[l])::r,v::vs,h,⟨h1,h2⟩=>⟨(can_relL fun m hm=>h m (by simp [vnames,lnames,hm])).2 h1,can_relVs (fun m hm=>h m (by simp [vnames,hm])) h2⟩
 | [],_::_,_,h=>h.elim
 | (true,_)::_,[],_,h=>h.elim
 | (false,[])::_,[],_,h=>h.elim
 | (false,[])::_,_::_,_,h=>h.elim
 | (false,_::_::_)::_,[],_,h=>h.elim
 | (false,_::_::_)::_,_::_,_,h=>h.elim
 | (false,[_])::_,[],_,h=>h.elim
theorem can_relA {ρ:Nat→Loc} {ns:List Nat} {v:AV} {u:Value} (hn:∀ m∈v.names,m∈ns) (h:RelA ρ v u):RelA (locN ρ ns) (v.can ns) u:=by
 cases v with
 | one l=>exact (can_relL hn).2 h
 | agg ls=>obtain ⟨cs,e,h⟩:=h;exact ⟨cs,e,(can_relLs hn).2 h⟩
 | tup vs=>obtain ⟨cs,e,h⟩:=h;exact ⟨cs,e,can_relVs hn h⟩
theorem can_relAs {ρ:Nat→Loc} {ns:List Nat}:∀ {vs:List AV} {us:List Value},(∀ m∈anames vs,m∈ns)→RelAs ρ vs us→RelAs (locN ρ ns) (canAs ns vs) us
 | [],[],_,_=>trivial
 | v::vs,u::us,hn,h=>⟨can_relA (fun m hm=>hn m (by simp [anames,hm])) h.1,can_relAs (fun m hm=>hn m (by simp [anames,hm])) h.2⟩
 | [],_::_,_,h=>h.elim
 | _::_,[],_,h=>h.elim
theorem canLs_len {ns:List Nat}:∀ {ls:List L},(canLs ns ls).length=ls.length
 | []=>rfl
 | _::_=>by simp [canLs,canLs_len]
theorem can_relB {ρ:Nat→Loc} {ns:List Nat} {b:Blk} {q:Loc} {o:Option Obj} (hn:∀ m∈b.names,m∈ns):RelB (locN ρ ns) q (b.can ns) o ↔ RelB ρ q b o:=by
 cases b with
 | cells T ls=>show (∃ cs:Array Value,_∧_∧RelLs (locN ρ ns) (canLs ns ls) _) ↔ ∃ cs:Array Value,_∧_∧RelLs ρ ls _;simp only [can_relLs hn]
 | ro T ls=>show (∃ (cs:Array Value) (fr:Nat×Nat),_∧∃ us ws,_∧RelLs (locN ρ ns) (canLs ns ls) us) ↔ ∃ (cs:Array Value) (fr:Nat×Nat),_∧∃ us ws,_∧RelLs ρ ls us;simp only [can_relLs hn]
 | row T z n f=>exact Iff.rfl
 | imap es=>exact Iff.rfl
 | romap es=>exact Iff.rfl
 | vec T ls=>show (∃ cs:Array Value,_∧_∧_∧(canLs ns ls).length≤_∧_∧RelLs (locN ρ ns) (canLs ns ls) (cs.toList.take (canLs ns ls).length)) ↔ ∃ cs:Array Value,_∧_∧_∧_∧_∧RelLs ρ ls _;simp only [canLs_len,can_relLs hn]
theorem can_own {ns:List Nat} {b:Blk}:(b.can ns).own=b.own:=by cases b<;>rfl
theorem can_namesL {ns:List Nat} {m:Nat} {l:L} (h:m∈(l.can ns).names):∃ i∈l.names,m=posN i ns 0:=by
 cases l with
 | clo f caps=>
   have key:∀ {caps:List (Nat×Nat)},m∈capN (canCaps ns caps)→∃ i∈capN caps,m=posN i ns 0:=by
    intro caps
    induction caps with
    | nil=>intro h;simp [canCaps,capN] at h
    | cons p r ih=>
      intro h
      obtain ⟨i,o⟩:=p
      simp only [canCaps,capN,List.mem_cons] at h ⊢
      rcases h with h | h
      · exact ⟨i,.inl rfl,h⟩
      · obtain ⟨j,h1,h2⟩:=ih h;exact ⟨j,.inr h1,h2⟩
   exact key (by simpa [L.can,L.names] using h)
 | _=>simp [L.can,L.names] at h ⊢<;>exact h
theorem can_namesLs {ns:List Nat} {m:Nat}:∀ {ls:List L},m∈lnames (canLs ns ls)→∃ i∈lnames ls,m=posN i ns 0
 | [],h=>by simp [canLs,lnames] at h
 | l::ls,h=>by
   simp only [canLs,lnames,List.mem_append] at h ⊢
   rcases h with h | h
   · obtain ⟨i,h1,h2⟩:=can_namesL h;exact ⟨i,.inl h1,h2⟩
   · obtain ⟨i,h1,h2⟩:=can_namesLs h;exact ⟨i,.inr h1,h2⟩
theorem can_namesB {ns:List Nat} {m:Nat} {b:Blk} (h:m∈(b.can ns).names):∃ i∈b.names,m=posN i ns 0:=by
 cases b with
 | cells T ls=>exact can_namesLs (show m∈lnames (canLs ns ls) from h)
 | ro T ls=>exact can_namesLs (show m∈lnames (canLs ns ls) from h)
 | row T z n f=>simp [Blk.can,Blk.names] at h
 | imap es=>simp [Blk.can,Blk.names] at h
 | romap es=>simp [Blk.can,Blk.names] at h
 | vec T ls=>exact can_namesLs (show m∈lnames (canLs ns ls) from h)
theorem can_namesVs {ns:List Nat} {m:Nat}:∀ {ls:List (Bool×List L)},m∈vnames (canVs ns ls)→∃ i∈vnames ls,m=posN i ns 0
 | [],h=>by simp [canVs,vnames] at h
 | (b,l)::ls,h=>by
   simp only [canVs,vnames,List.mem_append] at h ⊢
   rcases h with h | h
   · obtain ⟨i,h1,h2⟩:=can_namesLs h;exact ⟨i,.inl h1,h2⟩
   · obtain ⟨i,h1,h2⟩:=can_namesVs h;exact ⟨i,.inr h1,h2⟩
theorem can_namesA {ns:List Nat} {m:Nat} {v:AV} (h:m∈(v.can ns).names):∃ i∈v.names,m=posN i ns 0:=by
 cases v with
 | one l=>exact can_namesL h
 | agg ls=>exact can_namesLs h
 | tup vs=>exact can_namesVs h
theorem canAs_mem {ns:List Nat}:∀ {l:List AV} {v:AV},v∈canAs ns l→∃ x∈l,v=x.can ns
 | [],_,h=>by simp [canAs] at h
 | y::l,v,h=>by
   simp only [canAs,List.mem_cons] at h
   rcases h with h | h
   · exact ⟨y,by simp,h⟩
   · obtain ⟨x,h1,h2⟩:=canAs_mem h;exact ⟨x,by simp [h1],h2⟩
theorem chOf_look {h:List (Nat×Blk)} {ns:List Nat}:∀ {l:List Nat} {k:Nat} {ch:List (Nat×Blk)},chOf h ns l k=some ch→ch.length=l.length ∧
 ∀ m,look ch m=if k≤m then (match l[m - k]? with | some i=>(look h i).map (Blk.can ns) | none=>none) else none
 | [],k,ch,e=>by
   obtain rfl:=Option.some.inj e
   exact ⟨rfl,fun m=>by simp [look]⟩
 | i::l,k,ch,e=>by
   simp only [chOf] at e
   split at e
   · rename_i b c hb hc
     obtain rfl:=Option.some.inj e
     obtain ⟨h1,h2⟩:=chOf_look hc
     refine ⟨by simp [h1],fun m=> ?_⟩
     rw [look_eq_beq]
     by_cases hm:k=m
     · subst hm;simp [hb]
     · rw [if_neg hm,h2]
       by_cases hle:k≤m
       · rw [if_pos hle,if_pos (by omega)]
         have:m - k=(m - (k + 1)) + 1:=by omega
         rw [this,List.getElem?_cons_succ]
       · rw [if_neg hle,if_neg (by omega)]
   · cases e
theorem ltNs_spec {ns:List Nat}:∀ {l:List Nat},ltNs ns l=true→∀ i∈l,i<ns.length
 | [],_,i,h=>by simp at h
 | j::r,e,i,h=>by
   simp only [ltNs] at e
   split at e
   · rename_i x hx
     rw [nthN_eq] at hx
     rcases List.mem_cons.1 h with rfl | h
     · exact (List.getElem?_eq_some_iff.1 hx).1
     · exact ltNs_spec e i h
   · cases e
theorem nthD_get {ns:List Nat} {k:Nat} (h:k<ns.length):ns[k]? =some (nthD ns k):=by
 unfold nthD
 rw [nthN_eq,List.getElem?_eq_getElem h]
theorem pos_nthD {ns:List Nat} (hnd:ns.Nodup) {k:Nat} (h:k<ns.length):posN (nthD ns k) ns 0=k:=by
 have h1:=nthD_get h
 obtain ⟨j,q1,q2⟩:=posN_get (k:=0) (List.mem_of_getElem? h1)
 rw [q1,Nat.zero_add]
 exact nodup_inj hnd q2 h1
theorem canCaps_unc {ns:List Nat} (hnd:ns.Nodup):∀ {c:List (Nat×Nat)},(∀ m∈capN c,m<ns.length)→canCaps ns (uncCaps ns c)=c
 | [],_=>rfl
 | (i,o)::r,h=>by
   simp only [uncCaps,canCaps]
   rw [pos_nthD hnd (h i (by simp [capN])),canCaps_unc hnd (fun m hm=>h m (by simp [capN,hm]))]
theorem can_unc {ns:List Nat} (hnd:ns.Nodup) {l:L} (h:∀ m∈l.names,m<ns.length):(l.unc ns).can ns=l:=by
 cases l<;>simp only [L.unc,L.can]<;>(try simp only [L.names,List.mem_singleton,forall_eq] at h)
 all_goals first | rfl | rw [pos_nthD hnd h] | rw [canCaps_unc hnd h]
theorem canLs_unc {ns:List Nat} (hnd:ns.Nodup):∀ {ls:List L},(∀ m∈lnames ls,m<ns.length)→canLs ns (uncLs ns ls)=ls
 | [],_=>rfl
 | l::r,h=>by
   simp only [uncLs,canLs]
   rw [can_unc hnd (fun m hm=>h m (by simp [lnames,hm])),canLs_unc hnd (fun m hm=>h m (by simp [lnames,hm]))]
theorem canB_unc {ns:List Nat} (hnd:ns.Nodup) {b:Blk} (h:∀ m∈b.names,m<ns.length):(b.unc ns).can ns=b:=by
 cases b<;>simp only [Blk.unc,Blk.can]
 · rw [canLs_unc hnd h]
 · rw [canLs_unc hnd h]
 · rw [canLs_unc hnd h]
theorem uncCaps_names {ns:List Nat}:∀ {c:List (Nat×Nat)},(∀ m∈capN c,m<ns.length)→∀ m∈capN (uncCaps ns c),m∈ns
 | [],_,m,hm=>by simp [uncCaps,capN] at hm
 | (i,o)::r,h,m,hm=>by
   simp only [uncCaps,capN,List.mem_cons] at hm
   rcases hm with rfl | hm
   · exact List.mem_of_getElem? (nthD_get (h i (by simp [capN])))
   · exact uncCaps_names (fun m hm=>h m (by simp [capN,hm])) m hm
theorem unc_names {ns:List Nat} {l:L} (h:∀ m∈l.names,m<ns.length):∀ m∈(l.unc ns).names,m∈ns:=by
 cases l<;>simp only [L.unc,L.names,List.mem_singleton,forall_eq] at h ⊢
 all_goals first | exact List.mem_of_getElem? (nthD_get h) | exact uncCaps_names h | (intro m hm;simp at hm)
theorem uncLs_names {ns:List Nat}:∀ {ls:List L},(∀ m∈lnames ls,m<ns.length)→∀ m∈lnames (uncLs ns ls),m∈ns
 | [],_,m,hm=>by simp [uncLs,lnames] at hm
 | l::r,h,m,hm=>by
   simp only [uncLs,lnames,List.mem_append] at hm
   rcases hm with hm | hm
   · exact unc_names (fun m hm=>h m (by simp [lnames,hm])) m hm
   · exact uncLs_names (fun m hm=>h m (by simp [lnames,hm])) m hm
theorem uncB_names {ns:List Nat} {b:Blk} (h:∀ m∈b.names,m<ns.length):∀ m∈(b.unc ns).names,m∈ns:=by
 cases b<;>simp only [Blk.unc]
 all_goals first
  | exact uncLs_names h
  | (intro m hm;simp [Blk.names] at hm)
theorem unc_own {ns:List Nat} {b:Blk}:(b.unc ns).own=b.own:=by cases b<;>rfl
def uncUps (ns:List Nat):List (Nat×Blk)→List (Nat×Blk)
 | []=>[]
 | (j,b)::r=>(j,b.unc ns)::uncUps ns r
theorem uncUps_mem {ns:List Nat} {p:Nat×Blk}:∀ {l:List (Nat×Blk)},p∈uncUps ns l→∃ q∈l,p=(q.1,q.2.unc ns)
 | [],h=>by simp [uncUps] at h
 | (j,b)::r,h=>by
   simp only [uncUps,List.mem_cons] at h
   rcases h with rfl | h
   · exact ⟨(j,b),by simp,rfl⟩
   · obtain ⟨q,q1,q2⟩:=uncUps_mem h
     exact ⟨q,by simp [q1],q2⟩
theorem lookU_unc {ns:List Nat} {j:Nat} {d':Blk}:∀ (l:List (Nat×Blk)) (d:Blk),(∀ p∈l,(p.2.unc ns).can ns=p.2)→lookU (uncUps ns l) j (some d)=some d'→lookU l j (some (d.can ns))=some (d'.can ns)
 | [],d,_,h=>by simp only [uncUps,lookU] at h ⊢;obtain rfl:=Option.some.inj h;rfl
 | (k,b)::r,d,hl,h=>by
   simp only [uncUps,lookU] at h ⊢
   split at h
   · have:=lookU_unc r (b.unc ns) (fun p hp=>hl p (by simp [hp])) h
     rw [hl (k,b) (by simp)] at this
     exact this
   · exact lookU_unc r d (fun p hp=>hl p (by simp [hp])) h
theorem setAllK_eq {ns:List Nat}:∀ (ups:List (Nat×Blk)) (h:List (Nat×Blk)) (k:List (Nat×Blk)→Prop),setAllK ns ups h k →
 ∃ h',k h'∧(∀ p∈ups,p.2.own=true∧(∀ m∈p.2.names,m<ns.length)∧∃ i c,ns[p.1]? =some i∧look h i=some c∧c.own=true) ∧
   (∀ i c,look h i=some c→∃ c',look h' i=some c'∧c'.own=c.own)∧(∀ i,look h i=none→look h' i=none)∧(∀ i,(∀ p∈ups,ns[p.1]? ≠some i)→look h' i=look h i)∧(ns.Nodup→∀ j i d,ns[j]? =some i→look h i=some d→look h' i=lookU (uncUps ns ups) j (some d))
 | [],h,k,e=>⟨h,e,by simp,fun i c hc=>⟨c,hc,rfl⟩,fun i hi=>hi,fun i _=>rfl,fun _ j i d _ hd=>hd⟩
 | (j,b)::r,h,k,e=>by
   have e:(match nthN ns j with
    | some i=>match look h i with
      | some c=>match c.own,b.own,ltNs ns b.names with
        | true,true,true=>forceB (b.unc ns) fun b=>setB h i b fun h=>setAllK ns r h k
        | _,_,_=>Stuck "write"
      | none=>Stuck "write"
    | none=>Stuck "write"):=e
   split at e
   · rename_i i hi
     rw [nthN_eq] at hi
     split at e
     · rename_i c hc
       split at e
       · rename_i ho hb hn
         rw [forceB_eq] at e
         obtain ⟨h1,e1,e2⟩:=setB_eq h i (b.unc ns) (fun h=>setAllK ns r h k) (by rw [hc];simp)
         rw [e1] at e
         obtain ⟨h',k1,k2,k3,k4,k5,k6⟩:=setAllK_eq r h1 k e
         have hl:∀ x,look h1 x=if x=i then some (b.unc ns) else look h x:=fun x=>by rw [e2];rfl
         have hb':(b.unc ns).own=true:=by rw [unc_own];exact hb
         refine ⟨h',k1,fun p hp=> ?_,fun x d hx=> ?_,fun x hx=> ?_,fun x hx=> ?_,fun hnd y x d hy hx=> ?_⟩
         · rcases List.mem_cons.1 hp with rfl | hp
           · exact ⟨hb,ltNs_spec hn,i,c,hi,hc,ho⟩
           · obtain ⟨q1,q2,x,d,q3,q4,q5⟩:=k2 p hp
             refine ⟨q1,q2,?_⟩
             rw [hl] at q4
             split at q4
             · rename_i e;exact ⟨x,c,q3,by rw [e];exact hc,ho⟩
             · exact ⟨x,d,q3,q4,q5⟩
         · by_cases e:x=i
           · rw [e] at hx ⊢
             rw [hc] at hx
             obtain rfl:=Option.some.inj hx
             obtain ⟨c',q1,q2⟩:=k3 i (b.unc ns) (by rw [hl,if_pos rfl])
             exact ⟨c',q1,by rw [q2,hb',ho]⟩
           · exact k3 x d (by rw [hl,if_neg e];exact hx)
         · have:x≠i:=fun e=>by rw [e,hc] at hx;cases hx
           exact k4 x (by rw [hl,if_neg this];exact hx)
         · have:x≠i:=fun e=>hx (j,b) (by simp) (by rw [e];exact hi)
           rw [k5 x (fun p hp=>hx p (by simp [hp])),hl,if_neg this]
         · simp only [uncUps,lookU]
           by_cases e:x=i
           · subst e
             have hji:j=y:=nodup_inj hnd hi hy
             subst hji
             simp only [Nat.beq_refl]
             exact k6 hnd j x (b.unc ns) hi (by rw [hl,if_pos rfl])
           · have hne:j≠y:=fun q=>e (by rw [q] at hi;exact Option.some.inj (hy.symm.trans hi))
             have hbq:Nat.beq j y=false:=by
              cases q:Nat.beq j y with
              | false=>rfl
              | true=>exact absurd (by simpa using q) hne
             rw [hbq]
             exact k6 hnd y x d hy (by rw [hl,if_neg e];exact hx)
       · cases e
     · cases e
   · cases e
inductive EntriesW (P:Program) (G:World→Prop):List (Nat×SpW)→Prop
 | nil:EntriesW P G []
 | cons {f:Nat} {sp:SpW} {l:List (Nat×SpW)} (e:EntryW P G f sp) (h:EntriesW P G l):EntriesW P G ((f,sp)::l)
theorem EntriesW.get:∀ {l:List (Nat×SpW)} {f:Nat} {sp:SpW},EntriesW P G l→tabW l f=some sp→EntryW P G f sp
 | [],_,_,_,h=>by cases h
 | (g,s)::l,f,sp,.cons e h,hs=>by
   simp only [tabW] at hs
   split at hs
   · rename_i he
     have:g=f:=by simpa using he
     subst this
     obtain rfl:=Option.some.inj hs
     exact e
   · exact EntriesW.get h hs
theorem wcore {f:FuncId} {ns:List Nat} {ch ups:List (Nat×Blk)} {args:List AV} {v:AV} {hh hh':Nat→Option Blk}
 (hin:∀ i∈anames args,i∈ns) (hcl:∀ i∈ns,∃ b,hh i=some b∧∀ m∈b.names,m∈ns) (hnd:ns.Nodup)
 (hch':∀ m,look ch m=match ns[m]? with | some i=>(hh i).map (Blk.can ns) | none=>none) (hlen:ch.length=ns.length) (hv:v.names=[])
 (k2:∀ p∈ups,p.2.own=true∧(∀ m∈p.2.names,m<ns.length)∧∃ i c,ns[p.1]? =some i∧hh i=some c∧c.own=true)
 (k3:∀ i c,hh i=some c→∃ c',hh' i=some c'∧c'.own=c.own) (k4:∀ i,hh i=none→hh' i=none) (k5:∀ i,(∀ p∈ups,ns[p.1]? ≠some i)→hh' i=hh i)
 (k6:ns.Nodup→∀ j i d,ns[j]? =some i→hh i=some d→hh' i=lookU (uncUps ns ups) j (some d))
 (he:CallsW P G f (canAs ns args) ch v ups) {b:Nat} {w0:World} {ρ:Nat→Loc} {us:List Value} {w:World} (hG:G w0) (hb0:b=w0.heap.size) (hrel:RelAs ρ args us) (H:RelH b w0 ρ hh w) :
 Calls P f us.toArray w (fun e w'=>∃ u,e= .returned u∧RelA ρ v u∧RelH b w0 ρ hh' w'∧w.heap.size≤w'.heap.size ∧
  (∀ k,k<w.heap.size→(∀ m d,hh m=some d→d.own=true→(ρ m).b≠k)→w'.heap[k]? =w.heap[k]?)∧∀ i d',hh' i=some d'→∃ d,hh i=some d∧d'.own=d.own):=by
 have hget:∀ m d,look ch m=some d→∃ i d0,ns[m]? =some i∧hh i=some d0∧d=d0.can ns∧(∀ x∈d0.names,x∈ns)∧locN ρ ns m=ρ i:=fun m d hm=>by
  rw [hch'] at hm
  cases hi:ns[m]? with
  | none=>rw [hi] at hm;cases hm
  | some i=>
    rw [hi] at hm
    obtain ⟨d0,q1,q2⟩:=Option.map_eq_some_iff.1 hm
    obtain ⟨b',q3,q4⟩:=hcl i (List.mem_of_getElem? hi)
    rw [q1] at q3
    obtain rfl:=Option.some.inj q3
    exact ⟨i,d0,rfl,q1,q2.symm,q4,by rw [locN,hi]⟩
 have hput:∀ m i d0,ns[m]? =some i→hh i=some d0→look ch m=some (d0.can ns):=fun m i d0 hi hd=>by rw [hch',hi];show Option.map _ (hh i)=_;rw [hd];rfl
 have hpos:∀ i∈ns,look ch (posN i ns 0)≠none:=fun i hi=>by
  obtain ⟨j,q1,q2⟩:=posN_get (k:=0) hi
  obtain ⟨d0,q3,_⟩:=hcl i hi
  rw [q1,Nat.zero_add,hput j i d0 q2 q3];simp
 have hin2:∀ m,m<ns.length→look ch m≠none:=fun m hm=>by
  have h1:=nthD_get hm
  obtain ⟨d0,q3,_⟩:=hcl _ (List.mem_of_getElem? h1)
  rw [hput m _ d0 h1 q3];simp
 have HC:RelH b w0 (locN ρ ns) (look ch) w:=by
  refine ⟨fun m d hm=> ?_,fun m d hm x hx=> ?_,fun m d hm=> ?_,fun m m' d d' hm hm' ho e=> ?_,H.below,H.base⟩
  · obtain ⟨i,d0,q1,q2,rfl,q4,q5⟩:=hget m d hm
    rw [q5]
    exact (can_relB q4).2 (H.heap i d0 q2)
  · obtain ⟨i,d0,q1,q2,rfl,q4,q5⟩:=hget m d hm
    obtain ⟨y,y1,rfl⟩:=can_namesB hx
    exact hpos y (q4 y y1)
  · obtain ⟨i,d0,q1,q2,rfl,q4,q5⟩:=hget m d hm
    rw [q5,can_own]
    exact H.low i d0 q2
  · obtain ⟨i,d0,q1,q2,rfl,q4,q5⟩:=hget m d hm
    obtain ⟨i',d0',q1',q2',rfl,q4',q5'⟩:=hget m' d' hm'
    rw [can_own] at ho
    rw [q5,q5'] at e
    have:=H.inj i i' d0 d0' q2 q2' ho e
    subst this
    exact nodup_inj hnd q1 q1'
 refine (he (fun p hp m hm=>hin2 m ((k2 p hp).2.1 m hm)) (fun m hm=> ?_) (fun x hx m hm=> ?_) b w0 (locN ρ ns) us w hG hb0 (can_relAs hin hrel) HC).mono ?_
 · cases hd:look ch m with
   | none=>exact absurd hd hm
   | some d=>
     obtain ⟨i,d0,q1,_⟩:=hget m d hd
     have:=(List.getElem?_eq_some_iff.1 q1).1
     omega
 · obtain ⟨y,y1,rfl⟩:=canAs_mem hx
   obtain ⟨i,i1,rfl⟩:=can_namesA hm
   exact hpos i (hin i (anames_mem.2 ⟨y,y1,i1⟩))
 rintro e w' ⟨u,rfl,hu,hB,hbel,hfr⟩
 have hstay:∀ k,k<w.heap.size→(∀ m d,hh m=some d→d.own=true→(ρ m).b≠k)→w'.heap[k]? =w.heap[k]? :=fun k hk hf=>hfr k hk fun m d hm ho=>by
  obtain ⟨i,d0,q1,q2,rfl,q4,q5⟩:=hget m d hm
  rw [q5];rw [can_own] at ho
  exact hf i d0 q2 ho
 have hbs:∀ i d,hh i=some d→(ρ i).b<w.heap.size:=fun i d hi=>by
  have:=relB_some (H.heap i d hi)
  cases ho:w.heap[(ρ i).b]? with
  | none=>exact absurd ho this
  | some o=>exact (Array.getElem?_eq_some_iff.1 ho).1
 have hdom:∀ i d',hh' i=some d'→∃ d,hh i=some d∧d'.own=d.own:=fun i d' hi=>by
  cases hd:hh i with
  | none=>rw [k4 i hd] at hi;cases hi
  | some d=>
    obtain ⟨c',q1,q2⟩:=k3 i d hd
    rw [hi] at q1
    obtain rfl:=Option.some.inj q1
    exact ⟨d,rfl,q2⟩
 have hnm':∀ i∈ns,∀ d',hh' i=some d'→∀ x∈d'.names,x∈ns:=fun i hmem d' hi x hx=>by
  obtain ⟨d,hd,_⟩:=hdom i d' hi
  obtain ⟨j,q1,q2⟩:=posN_get (k:=0) hmem
  obtain ⟨b',q3,q4⟩:=hcl i hmem
  rw [hd] at q3
  obtain rfl:=Option.some.inj q3
  rw [k6 hnd j i d q2 hd] at hi
  rcases lookU_or (uncUps ns ups) _ hi with h | ⟨q,r1,r2⟩
  · obtain rfl:=Option.some.inj h
    exact q4 x hx
  · obtain ⟨p,p1,rfl⟩:=uncUps_mem r1
    rw [← r2] at hx
    exact uncB_names (k2 p p1).2.1 x hx
 have hnm:∀ i d',hh' i=some d'→∀ x∈d'.names,hh x≠none:=fun i d' hi x hx=>by
  obtain ⟨d,hd,_⟩:=hdom i d' hi
  by_cases hmem:i∈ns
  · obtain ⟨b',q3,_⟩:=hcl x (hnm' i hmem d' hi x hx)
    rw [q3];simp
  · rw [k5 i (fun p _ e=>hmem (List.mem_of_getElem? e)),hd] at hi
    obtain rfl:=Option.some.inj hi
    exact H.namesH i d hd x hx
 refine ⟨u,rfl,relA_any hu hv,⟨fun i d' hi=> ?_,fun i d' hi x hx=> ?_,fun i d' hi=> ?_,fun i j d d' hi hj ho e=> ?_,?_,Nat.le_trans H.base hbel.size⟩,hbel.size,hstay,hdom⟩
 · obtain ⟨d,hd,ho⟩:=hdom i d' hi
   by_cases hmem:i∈ns
   · obtain ⟨j,q1,q2⟩:=posN_get (k:=0) hmem
     obtain ⟨b',q3,q4⟩:=hcl i hmem
     rw [hd] at q3
     obtain rfl:=Option.some.inj q3
     have hloc:locN ρ ns j=ρ i:=by rw [locN,q2]
     rw [k6 hnd j i d q2 hd] at hi
     have hi0:=hi
     have q5:=lookU_unc ups d (fun p hp=>canB_unc hnd (k2 p hp).2.1) hi
     have:=hB j (d.can ns) (hput j i d q2 hd) (d'.can ns) q5
     rw [hloc] at this
     exact (can_relB (hnm' i hmem d' (by rw [k6 hnd j i d q2 hd];exact hi0))).1 this
   · rw [k5 i (fun p _ e=>hmem (List.mem_of_getElem? e)),hd] at hi
     obtain rfl:=Option.some.inj hi
     by_cases hown:d.own=true
     · rw [hfr _ (hbs i d hd) fun m c hm ho e=> ?_]
       · exact H.heap i d hd
       · obtain ⟨x,d0,q1,q2,rfl,q4,q5⟩:=hget m c hm
         rw [q5] at e
         rw [can_own] at ho
         have:=H.inj x i d0 d q2 hd ho e
         subst this
         exact hmem (List.mem_of_getElem? q1)
     · have hown:d.own=false:=by simpa using hown
       rw [hfr _ (hbs i d hd) fun m c hm ho e=> ?_]
       · exact H.heap i d hd
       · obtain ⟨x,d0,q1,q2,rfl,q4,q5⟩:=hget m c hm
         rw [q5] at e
         rw [can_own] at ho
         have:=(H.low x d0 q2).1 ho
         have:=(H.low i d hd).2 hown
         omega
 · have:=hnm i d' hi x hx
   cases hx':hh x with
   | none=>exact absurd hx' this
   | some c=>obtain ⟨c',q1,_⟩:=k3 x c hx';rw [q1];simp
 · obtain ⟨d,hd,ho⟩:=hdom i d' hi
   rw [ho];exact H.low i d hd
 · obtain ⟨d1,hd1,ho1⟩:=hdom i d hi
   obtain ⟨d2,hd2,_⟩:=hdom j d' hj
   exact H.inj i j d1 d2 hd1 hd2 (by rw [← ho1];exact ho) e
 · refine H.below.trans ⟨hbel.os,hbel.tape,hbel.output,hbel.size,fun k hk=>hstay k (Nat.lt_of_lt_of_le hk H.base) fun m d hm ho e=> ?_⟩
   have:=(H.low m d hm).1 ho
   omega
theorem wInl_sound {ws:List (Nat×SpW)} (hw:EntriesW P G ws) {base:FuncId→Nat→List AV→List (Nat×Blk)→(AV→List (Nat×Blk)→Prop)→Prop} (hb:InlOK P G base):InlOK P G (wInl ws base):=by
 intro f tp args h K hK hlt hn
 unfold wInl at hK
 split at hK
 · exact hb f tp args h K hK hlt hn
 · rename_i sp hsp
   rw [forceNs_eq] at hK
   generalize reachN h 60 (anames args) []=ns at hK
   split at hK
   · rename_i ch h1 h2 h3 h4
     split at hK
     · rename_i c v ups hs
       obtain ⟨hc,hK⟩:=withC_eq hK
       rw [forceA_eq] at hK
       split at hK
       · rename_i hv
         have he:=hw.get hsp
         refine ⟨he.fn,fun b w0 ρ us w hG hb0 hrel H=> ?_⟩
         obtain ⟨h',k1,k2,k3,k4,k5,k6⟩:=setAllK_eq ups h _ hK
         obtain ⟨hlen,hch⟩:=chOf_look h4
         refine (wcore (subNs_spec h1) (closedIn_spec h2) (distN_spec h3) (fun m=>by rw [hch m,if_pos (Nat.zero_le _)];simp) hlen hv k2 k3 k4 k5 k6 (he.calls _ _ c v ups hs hc hv) hG hb0 hrel H).mono ?_
         rintro e w' ⟨u,rfl,hu,H',hsz,hstay,hdom⟩
         refine ⟨v,h',u,ρ,k1,rfl,hu,by rw [hv];simp,H',fun m hm=>⟨?_,rfl⟩,hsz,hstay,fun m d' hm ho hnone=> ?_⟩
         · cases hd:look h m with
           | none=>exact absurd hd hm
           | some d=>obtain ⟨c',q1,_⟩:=k3 m d hd;rw [q1];simp
         · obtain ⟨d,hd,_⟩:=hdom m d' hm
           rw [hd] at hnone;cases hnone
       · cases hK
     · exact hb f tp args h K hK hlt hn
   · cases hK
abbrev withW (C:Table) (ws:List (Nat×SpW)):Table:=⟨C.fn,C.glob,C.look,wInl ws C.inl,C.app,C.nm,C.tp,C.im,C.mkr,C.mks⟩
theorem CSound.withW {C:Table} (h:CSound P G C) {ws:List (Nat×SpW)} (hw:EntriesW P G ws):CSound P G (withW C ws):=⟨h.stable,h.globs,h.looks,h.calls,wInl_sound hw h.inl,h.mkr⟩
theorem CallsW.of_FI {C:Table} (hC:CSound P G C) (hm:P.follows .mixedOrders=true) {f:FuncId} {fn:Func} (hf:P.funcs[f]? =some fn) {args:List AV} {ch ups:List (Nat×Blk)} {v:AV} (hv:v.names=[])
 (h:FI P C fn ch.length args ch (fun u g=>u=v∧∀ i d,look ch i=some d→look g i=lookU ups i (some d))):CallsW P G f args ch v ups:=by
 intro hup hlt hna b w0 ρ us w hG hb0 hrel H
 refine (FI_sound hC hm hf h hlt hna b w0 ρ us w hG hb0 hrel H).mono ?_
 rintro e w' ⟨v',h',u,ρ',⟨rfl,hg⟩,rfl,hr,-,H',hk,hgr,hfr,-⟩
 refine ⟨u,rfl,relA_any hr hv,fun i d hi d' hd'=> ?_,⟨?_,?_,?_,hgr,fun k hk=>by omega⟩,hfr⟩
 · have e1:=hg i d hi
   rw [hd'] at e1
   have e2:=(hk i (by rw [hi];simp)).2
   have:=H'.heap i d' e1
   rw [e2] at this
   refine relB_agree this fun m hm=> ?_
   rcases lookU_or ups _ hd' with e | ⟨q,q1,q2⟩
   · obtain rfl:=Option.some.inj e
     exact ((hk m (H.namesH i d hi m hm)).2).symm
   · rw [← q2] at hm
     exact ((hk m (hup q q1 m hm)).2).symm
 · rw [H'.below.os,H.below.os]
 · rw [H'.below.tape,H.below.tape]
 · rw [H'.below.output,H.below.output]
theorem EntryW.of_FI {C:Table} (hC:CSound P G C) (hm:P.follows .mixedOrders=true) {f:FuncId} {fn:Func} {sp:SpW} (hf:P.funcs[f]? =some fn)
 (hn:(fn.name== "runtime.NumGoroutine")=false) (hb:fn.body.isNone=false)
 (h:∀ args ch c v ups,sp args ch=some (c,v,ups)→c.holds→FI P C fn ch.length args ch (fun u g=>u=v∧∀ i d,look ch i=some d→look g i=lookU ups i (some d))):EntryW P G f sp:=
 ⟨⟨fn,hf,hn,hb⟩,fun args ch c v ups hs hc hv=>CallsW.of_FI hC hm hf hv (h args ch c v ups hs hc)⟩
theorem canH {h ch:List (Nat×Blk)} {ns:List Nat} (h2:closedIn h ns ns=true) (h3:distN ns=true) (h4:chOf h ns ns 0=some ch) {b:Nat} {w0 w:World} {ρ:Nat→Loc} (H:RelH b w0 ρ (look h) w) :
 RelH b w0 (locN ρ ns) (look ch) w∧(∀ m,look ch m≠none→m<ch.length)∧∀ i∈ns,look ch (posN i ns 0)≠none:=by
 have hcl:=closedIn_spec h2
 have hnd:=distN_spec h3
 obtain ⟨hlen,hch⟩:=chOf_look h4
 have hch':∀ m,look ch m=match ns[m]? with | some i=>(look h i).map (Blk.can ns) | none=>none:=fun m=>by rw [hch m,if_pos (Nat.zero_le _)];simp
 have hget:∀ m d,look ch m=some d→∃ i d0,ns[m]? =some i∧look h i=some d0∧d=d0.can ns∧(∀ x∈d0.names,x∈ns)∧locN ρ ns m=ρ i:=fun m d hm=>by
  rw [hch'] at hm
  cases hi:ns[m]? with
  | none=>rw [hi] at hm;cases hm
  | some i=>
    rw [hi] at hm
    obtain ⟨d0,q1,q2⟩:=Option.map_eq_some_iff.1 hm
    obtain ⟨b',q3,q4⟩:=hcl i (List.mem_of_getElem? hi)
    rw [q1] at q3
    obtain rfl:=Option.some.inj q3
    exact ⟨i,d0,rfl,q1,q2.symm,q4,by rw [locN,hi]⟩
 have hpos:∀ i∈ns,look ch (posN i ns 0)≠none:=fun i hi=>by
  obtain ⟨j,q1,q2⟩:=posN_get (k:=0) hi
  obtain ⟨d0,q3,_⟩:=hcl i hi
  rw [q1,Nat.zero_add,hch',q2]
  show Option.map _ (look h i)≠none
  rw [q3];simp
 refine ⟨⟨fun m d hm=> ?_,fun m d hm x hx=> ?_,fun m d hm=> ?_,fun m m' d d' hm hm' ho e=> ?_,H.below,H.base⟩,fun m hm=> ?_,hpos⟩
 · obtain ⟨i,d0,q1,q2,rfl,q4,q5⟩:=hget m d hm
   rw [q5]
   exact (can_relB q4).2 (H.heap i d0 q2)
 · obtain ⟨i,d0,q1,q2,rfl,q4,q5⟩:=hget m d hm
   obtain ⟨y,y1,rfl⟩:=can_namesB hx
   exact hpos y (q4 y y1)
 · obtain ⟨i,d0,q1,q2,rfl,q4,q5⟩:=hget m d hm
   rw [q5,can_own]
   exact H.low i d0 q2
 · obtain ⟨i,d0,q1,q2,rfl,q4,q5⟩:=hget m d hm
   obtain ⟨i',d0',q1',q2',rfl,q4',q5'⟩:=hget m' d' hm'
   rw [can_own] at ho
   rw [q5,q5'] at e
   have:=H.inj i i' d0 d0' q2 q2' ho e
   subst this
   exact nodup_inj hnd q1 q1'
 · cases hd:look ch m with
   | none=>exact absurd hd hm
   | some d=>
     obtain ⟨i,d0,q1,_⟩:=hget m d hd
     have:=(List.getElem?_eq_some_iff.1 q1).1
     omega
end
end Go.Ep
