/- Regions that draw their order: a head that only reads, a call behind all of it, and behind the call operations that only read, in whatever order. Conditions: as typed. -/
import Derived.StillTail
import Derived.Deep.AppendSrc
import Derived.Maps.AppendAt
namespace Go
set_option linter.unusedVariables false
set_option linter.unusedSimpArgs false
section
variable {P : Program} {ops ops' : Array Oper} {md : Region.Mode} {w : World} {n : Nat}
structure Two (n:Nat) (ops:Array Oper) (l l':Array Bool):Prop where
 size:l.size=ops.size
 size':l'.size=n + 1
 same:∀ i,i≤n→∀ d,l'.getD i d=l.getD i d
 tail:∀ t,n≤t→l.getD t false=false
theorem getD_lt {l:Array Bool} {i:Nat} (d:Bool) (h:i<l.size):l.getD i d=l[i]:=by simp [h]
theorem getD_ge {l:Array Bool} {i:Nat} (d:Bool) (h:l.size≤i):l.getD i d=d:=by simp [Array.getElem?_eq_none h]
theorem Two.set {l l':Array Bool} (h:Two n ops l l') {i:Nat} (hi:i<n):Two n ops (l.setIfInBounds i true) (l'.setIfInBounds i true):=by
 refine ⟨by simp [h.size],by simp [h.size'],fun j hj d=> ?_,fun t ht=>by rw [getD_set_ne false (by omega)];exact h.tail t ht⟩
 by_cases hij:i=j
 · subst hij
   have h1:=h.same i hj true
   have h0:=h.same i hj false
   have hl':i<l'.size:=by rw [h.size'];omega
   have hl:i<l.size:=by
    rcases Nat.lt_or_ge i l.size with hlt | hge
    · exact hlt
    · rw [getD_ge _ hge,getD_lt _ hl'] at h1 h0
      rw [h1] at h0;cases h0
   simp [hl,hl']
 · rw [getD_set_ne d hij,getD_set_ne d hij];exact h.same j hj d
theorem ready_two {l l':Array Bool} (h:Two n ops l l') (hops:∀ j,j≤n→ops'[j]? =ops[j]?) (hno:∀ j,n<j→ops'[j]? =none)
 (hB:∀ t ot,n<t→ops[t]? =some ot→∃ e∈ot.after,Region.binds md e=true∧n≤e.on) (j:Nat):j∈Region.ready md ops l ↔ j∈Region.ready md ops' l':=by
 rw [mem_ready,mem_ready]
 constructor
 · rintro ⟨hu,o,ho,hall⟩
   have hj:j≤n:=by
    rcases Nat.lt_or_ge n j with hlt | hge
    · obtain ⟨e,he,hb,hon⟩:=hB j o hlt ho
      have:=hall e he hb
      rw [h.tail _ hon] at this
      cases this
    · exact hge
   refine ⟨by rw [h.same j hj];exact hu,o,by rw [hops j hj];exact ho,fun e he hb=> ?_⟩
   have h1:=hall e he hb
   have:e.on≤n:=by
    rcases Nat.lt_or_ge n e.on with hlt | hge
    · rw [h.tail _ (by omega)] at h1;cases h1
    · exact hge
   rw [h.same _ this];exact h1
 · rintro ⟨hu,o,ho,hall⟩
   have hj:j≤n:=by
    rcases Nat.lt_or_ge n j with hlt | hge
    · rw [hno j hlt] at ho;cases ho
    · exact hge
   refine ⟨by rw [← h.same j hj];exact hu,o,by rw [← hops j hj];exact ho,fun e he hb=> ?_⟩
   have h1:=hall e he hb
   have:e.on≤n:=by
    rcases Nat.lt_or_ge n e.on with hlt | hge
    · rw [getD_ge _ (by rw [h.size'];omega)] at h1;cases h1
    · exact hge
   rw [← h.same _ this];exact h1
theorem stOp_two {i:Nat} (hops:∀ j,j≤n→ops'[j]? =ops[j]?) (hi:i<n) (hg:∀ i o j b,i<n→ops[i]? =some o→o.guard=some (j,b)→j≤n) {K:Act→Prop} {a:Act} (h:stOp P ops' w i K a):stOp P ops w i K a:=by
 unfold stOp at *
 rw [hops i (by omega)] at h
 cases ho:ops[i]? with
 | none=>rw [ho] at h;exact h
 | some o=>
   rw [ho] at h
   dsimp only at h ⊢
   have hw:Region.wanted o (yielded ops a.tmps)=Region.wanted o (yielded ops' a.tmps):=by
    unfold Region.wanted
    cases hgd:o.guard with
    | none=>rfl
    | some jb=>
      obtain ⟨j,b⟩:=jb
      have:=hg i o j b hi ho hgd
      simp only [yielded,hops j this]
   rw [hw];exact h
theorem wpStill_two (hops:∀ j,j≤n→ops'[j]? =ops[j]?) (hg:∀ i o j b,i<n→ops[i]? =some o→o.guard=some (j,b)→j≤n) {Lq:Act→Prop}:∀ (l:List Oper) (k:Nat) (a:Act),(∀ j,j<l.length→l[j]? =ops[k + j]?)→k + l.length≤n →
 wpStill P ops w Lq l a→wpStill P ops' w Lq l a
 | [],_,_,_,_,h=>h
 | o::l,k,a,hl,hk,h=>by
   have h0:ops[k]? =some o:=by simpa using (hl 0 (by simp)).symm
   simp only [List.length_cons] at hk
   have hw:Region.wanted o (yielded ops a.tmps)=Region.wanted o (yielded ops' a.tmps):=by
    unfold Region.wanted
    cases hgd:o.guard with
    | none=>rfl
    | some jb=>
      obtain ⟨j,b⟩:=jb
      have:=hg k o j b (by omega) h0 hgd
      simp only [yielded,hops j this]
   have ih:∀ a',wpStill P ops w Lq l a'→wpStill P ops' w Lq l a':=fun a'=>wpStill_two hops hg l (k + 1) a' (fun j hj=>by have:=hl (j + 1) (by simp;omega);simpa [Nat.add_assoc,Nat.add_comm 1 j] using this) (by omega)
   unfold wpStill at h ⊢
   rw [← hw]
   split
   · rename_i hwt;rw [if_pos hwt] at h;exact Oper.still_mono ih h
   · rename_i hwt;rw [if_neg hwt] at h;exact ih _ h
theorem wpAnyL_two (hops:∀ j,j≤n→ops'[j]? =ops[j]?) (hno:∀ j,n<j→ops'[j]? =none)
 (hB:∀ t ot,n<t→ops[t]? =some ot→∃ e∈ot.after,Region.binds md e=true∧n≤e.on) (hg:∀ i o j b,i<n→ops[i]? =some o→o.guard=some (j,b)→j≤n)
 {L L2:Array Bool→Act→Prop} (hL:∀ l l' a,Two n ops l l'→L l' a→L2 l a):∀ (f:Nat) (l l':Array Bool) (a:Act),Two n ops l l'→wpAnyL P md ops' w n L f l' a→wpAnyL P md ops w n L2 f l a
 | 0,l,l',a,h,hw=>hL l l' a h hw
 | f + 1,l,l',a,h,hw=>by
   refine ⟨fun h0=>hw.1 ?_,fun i hi=> ?_⟩
   · rw [List.eq_nil_iff_forall_not_mem] at h0 ⊢
     exact fun j hj=>h0 j ((ready_two h hops hno hB j).2 hj)
   · obtain ⟨hin,hst⟩:=hw.2 i ((ready_two h hops hno hB i).1 hi)
     exact ⟨hin,stOp_mono (fun a' h'=>wpAnyL_two hops hno hB hg hL f _ _ a' (h.set hin) h') (stOp_two hops hin hg hst)⟩
def doneTo (n m:Nat):Array Bool:=(List.replicate n true++List.replicate (m - n) false).toArray
theorem all_done (hops:∀ j,j≤n→ops'[j]? =ops[j]?) (hn:n<ops.size) (hD:∀ i o,i<n→ops[i]? =some o→∀ e∈o.after,Region.binds md e=true→e.on<i) {l l':Array Bool} (h:Two n ops l l') (hr:Region.ready md ops' l'=[n]) :
 ∀ i,i<n→l.getD i false=true:=by
 intro i
 induction i using Nat.strongRecOn with
 | _ i ih=>
   intro hi
   cases hl:l.getD i false with
   | true=>rfl
   | false=>
     exfalso
     have hi':i<ops.size:=by omega
     have hmem:i∈Region.ready md ops' l':=by
      rw [mem_ready]
      refine ⟨?_,ops[i],?_,fun e he hb=> ?_⟩
      · rw [h.same i (by omega)];exact getD_in (by rw [h.size];omega) hl
      · rw [hops i (by omega)];simp [hi']
      · have:=hD i ops[i] hi (by simp [hi']) e he hb
        rw [h.same _ (by omega)]
        exact ih _ this (by omega)
     rw [hr] at hmem
     have:i=n:=by simpa using hmem
     omega
theorem done_eq (hn:n<ops.size) {l l':Array Bool} (h:Two n ops l l') (hall:∀ i,i<n→l.getD i false=true):l.setIfInBounds n true=doneTo (n + 1) ops.size:=by
 apply Array.ext
 · simp [doneTo,h.size];omega
 · intro i h1 h2
   have hi:i<l.size:=by simpa using h1
   rw [Array.getElem_setIfInBounds hi]
   simp only [doneTo,List.getElem_toArray]
   by_cases hin:n=i
   · subst hin;rw [if_pos rfl,List.getElem_append_left (by simp)];simp
   · rw [if_neg hin]
     rcases Nat.lt_or_ge i n with hlt | hge
     · rw [List.getElem_append_left (by simp;omega)]
       have:=hall i hlt
       rw [getD_lt _ hi] at this
       simpa using this
     · rw [List.getElem_append_right (by simp;omega)]
       have:=h.tail i hge
       rw [getD_lt _ hi] at this
       simpa using this
theorem doneTo_un {m s j:Nat} (h1:m≤j) (h2:j<s):(doneTo m s).getD j true=false:=by
 rw [getD_lt _ (by simp [doneTo];omega)]
 simp only [doneTo,List.getElem_toArray]
 rw [List.getElem_append_right (by simpa using h1)]
 simp
theorem doneTo_do {m s j:Nat} (d:Bool) (h:j<m):(doneTo m s).getD j d=true:=by
 rw [getD_lt _ (by simp [doneTo];omega)]
 simp only [doneTo,List.getElem_toArray]
 rw [List.getElem_append_left (by simpa using h)]
 simp
def Region.midB (md:Region.Mode) (ops:Array Oper) (n:Nat):Bool:=
 let ops':=(ops.toList.take (n + 1)).toArray
 Region.lexTailB md ops' n&&Region.noSelect ops&&decide (n<ops.size) &&
 ((List.range ops.size).all fun t=>decide (t≤n)||match ops[t]? with
   | some o=>o.after.any fun e=>Region.binds md e&&decide (n≤e.on)
   | none=>false) &&
 ((List.range (n + 1)).all fun i=>match ops[i]? with
   | some o=>(o.after.all fun e=> !Region.binds md e||decide (e.on<i))&&(match o.guard with
     | some (j,_)=>decide (j≤n)
     | none=>true)
   | none=>false) &&
 Region.lexFrom md ops (ops.size - (n + 1)) (n + 1) (doneTo (n + 1) ops.size)
theorem midB_closed (h:Region.midB .any ops n=true):∀ j oj,ops[j]? =some oj→(doneTo (n + 1) ops.size).getD j true=true→∀ e∈oj.after,Region.binds .any e=true→(doneTo (n + 1) ops.size).getD e.on false=true:=fun j oj hj hl e he hb=>by
 simp only [Region.midB,Bool.and_eq_true] at h
 have hjs:j<ops.size:=(Array.getElem?_eq_some_iff.1 hj).1
 have hjn:j<n + 1:=by
  rcases Nat.lt_or_ge j (n + 1) with h' | h'
  · exact h'
  · rw [doneTo_un h' hjs] at hl;cases hl
 have:=List.all_eq_true.1 h.1.2 j (List.mem_range.2 hjn)
 rw [hj] at this
 simp only [Bool.and_eq_true] at this
 have h5:=Array.all_eq_true'.1 this.1 e he
 simp only [hb,Bool.not_true,Bool.false_or,decide_eq_true_eq] at h5
 exact doneTo_do _ (by omega)
theorem wp_region_midA {id:Nat} {Q:Exit→Act→World→Prop} {a:Act} {w:World} {l:List Oper} (n:Nat) (hm:P.follows .mixedOrders=true) (hB:Region.midB .any l.toArray n=true)
 (h:wpStill P l.toArray { w with drawn:=w.drawn + 1 } (fun a'=>wpOp P l.toArray Q n (fun a2 w2=>wpAny P .any l.toArray Q (l.toArray.size - (n + 1)) (doneTo (n + 1) l.toArray.size) a2 w2) a' { w with drawn:=w.drawn + 1 }) (l.take n) a):(Code.region id l.toArray true).wp P Q a w:=by
 simp only [Region.midB,Bool.and_eq_true,decide_eq_true_eq] at hB
 obtain ⟨⟨⟨⟨⟨h1,hsel⟩,hn⟩,h2⟩,h3⟩,h4⟩:=hB
 have hn':n<l.length:=by simpa using hn
 simp only [Region.lexTailB,Bool.and_eq_true,decide_eq_true_eq] at h1
 obtain ⟨⟨⟨⟨hsel',hnn⟩,hs⟩,hc⟩,hlex⟩:=h1
 have hsz:(l.take (n + 1)).toArray.size=n + 1:=by simp;omega
 have hops:∀ j,j≤n→(l.take (n + 1)).toArray[j]? =l.toArray[j]? :=fun j hj=>by simp [List.getElem?_take,show j<n + 1 by omega]
 have hno:∀ j,n<j→(l.take (n + 1)).toArray[j]? =none:=fun j hj=>by simp [List.getElem?_take,show ¬ j<n + 1 by omega]
 have hBt:∀ t ot,n<t→l.toArray[t]? =some ot→∃ e∈ot.after,Region.binds .any e=true∧n≤e.on:=fun t ot ht hot=>by
  have htl:t<l.toArray.size:=(Array.getElem?_eq_some_iff.1 hot).1
  have:=List.all_eq_true.1 h2 t (List.mem_range.2 htl)
  rw [hot] at this
  simp only [Bool.or_eq_true,decide_eq_true_eq] at this
  rcases this with h | h
  · omega
  · obtain ⟨e,he,hb⟩:=Array.any_eq_true'.1 h
    simp only [Bool.and_eq_true,decide_eq_true_eq] at hb
    exact ⟨e,he,hb.1,hb.2⟩
 have h3':∀ i o,i<n→l.toArray[i]? =some o→(∀ e∈o.after,Region.binds .any e=true→e.on<i)∧∀ j b,o.guard=some (j,b)→j≤n:=fun i o hi ho=>by
  have:=List.all_eq_true.1 h3 i (List.mem_range.2 (by omega))
  rw [ho] at this
  simp only [Bool.and_eq_true] at this
  refine ⟨fun e he hb=> ?_,fun j b hg=> ?_⟩
  · have h5:=Array.all_eq_true'.1 this.1 e he
    simp only [hb,Bool.not_true,Bool.false_or,decide_eq_true_eq] at h5
    exact h5
  · have h5:=this.2
    rw [hg] at h5
    simpa using h5
 have hg:∀ i o j b,i<n→l.toArray[i]? =some o→o.guard=some (j,b)→j≤n:=fun i o j b hi ho=>(h3' i o hi ho).2 j b
 have htl:(l.take n).length=n:=by simp;omega
 have inv0:HeadInv .any (l.take (n + 1)).toArray n (Array.replicate (l.take (n + 1)).toArray.size false):=
  ⟨by simp,fun j oj _ hl=>(by rw [getD_replicate_false] at hl;cases hl),fun t _ ht=>getD_in (by simpa using ht) (getD_replicate_false _ _)⟩
 have hst:=wpStill_two (ops':=(l.take (n + 1)).toArray) hops hg (l.take n) 0 a (fun j hj=>by rw [htl] at hj;simp [hj]) (by rw [htl];omega) h
 have H:=wpAnyL_lex (md:= .any) (g:=(l.take (n + 1)).toArray.size - n) hsel' hs hc hnn (l.take n) 0 _ a (fun j hj=>by
  have hj':j<n:=by rw [htl] at hj;exact hj
  simp [List.getElem?_take,hj',show j<n + 1 by omega]) (by simpa using htl) inv0 (by rw [htl];exact hlex) hst
 have two0:Two n l.toArray (Array.replicate l.toArray.size false) (Array.replicate (l.take (n + 1)).toArray.size false):=by
  refine ⟨by simp,by simp;omega,fun i hi d=> ?_,fun t _=>getD_replicate_false _ _⟩
  rw [getD_lt _ (by simp;omega),getD_lt _ (by simp;omega)];simp
 have H2:=wpAnyL_two (L2:=fun lt a'=>∃ lt',Two n l.toArray lt lt'∧Region.ready .any (l.take (n + 1)).toArray lt'=[n]∧wpOp P l.toArray Q n (fun a2 w2=>wpAny P .any l.toArray Q (l.toArray.size - (n + 1)) (doneTo (n + 1) l.toArray.size) a2 w2) a' { w with drawn:=w.drawn + 1 }) hops hno hBt hg (fun lt lt' a' ht hL=>by
  refine ⟨lt',ht,?_,hL.2⟩
  have h5:=hL.1
  rw [hsz,show n + 1 - n=1 by omega] at h5
  simp only [Region.seqB,Bool.and_eq_true,decide_eq_true_eq] at h5
  exact h5.1) _ _ _ a two0 H
 rw [htl] at H2
 refine wp_region_any hm ?_
 have:=wpAny_of_head (Q':=Q) (g:=(l.toArray.size - (n + 1)) + 1) (fun lt a' hL=>by
  obtain ⟨lt',ht,hr,hop⟩:=hL
  have hall:=all_done hops hn (fun i o hi ho=>(h3' i o hi ho).1) ht hr
  have hmem:n∈Region.ready .any l.toArray lt:=(ready_two ht hops hno hBt n).2 (by rw [hr];simp)
  refine ⟨fun h0=>absurd (h0 ▸ hmem) (by simp),fun i hi=> ?_⟩
  have hin:i=n:=by have:=(ready_two ht hops hno hBt i).1 hi;rw [hr] at this;simpa using this
  subst hin
  refine wpOp_mono (fun a2 w2 hst2=> ?_) hop
  rw [done_eq hn ht hall]
  exact hst2) _ _ _ H2
 rw [show n + (l.toArray.size - (n + 1) + 1)=l.toArray.size by omega] at this
 exact this
theorem wp_region_mid {id:Nat} {Q:Exit→Act→World→Prop} {a:Act} {w:World} {l:List Oper} (n:Nat) (hm:P.follows .mixedOrders=true) (hB:Region.midB .any l.toArray n=true)
 (h:wpStill P l.toArray { w with drawn:=w.drawn + 1 } (fun a'=>wpOp P l.toArray Q n (fun a2 w2=>wpStill P l.toArray w2 (fun a3=>Q .normal a3 w2) (l.drop (n + 1)) a2) a' { w with drawn:=w.drawn + 1 }) (l.take n) a):(Code.region id l.toArray true).wp P Q a w:=by
 simp only [Region.midB,Bool.and_eq_true,decide_eq_true_eq] at hB
 obtain ⟨⟨⟨⟨⟨h1,hsel⟩,hn⟩,h2⟩,h3⟩,h4⟩:=hB
 have hn':n<l.length:=by simpa using hn
 simp only [Region.lexTailB,Bool.and_eq_true,decide_eq_true_eq] at h1
 obtain ⟨⟨⟨⟨hsel',hnn⟩,hs⟩,hc⟩,hlex⟩:=h1
 have hsz:(l.take (n + 1)).toArray.size=n + 1:=by simp;omega
 have hops:∀ j,j≤n→(l.take (n + 1)).toArray[j]? =l.toArray[j]? :=fun j hj=>by simp [List.getElem?_take,show j<n + 1 by omega]
 have hno:∀ j,n<j→(l.take (n + 1)).toArray[j]? =none:=fun j hj=>by simp [List.getElem?_take,show ¬ j<n + 1 by omega]
 have hBt:∀ t ot,n<t→l.toArray[t]? =some ot→∃ e∈ot.after,Region.binds .any e=true∧n≤e.on:=fun t ot ht hot=>by
  have htl:t<l.toArray.size:=(Array.getElem?_eq_some_iff.1 hot).1
  have:=List.all_eq_true.1 h2 t (List.mem_range.2 htl)
  rw [hot] at this
  simp only [Bool.or_eq_true,decide_eq_true_eq] at this
  rcases this with h | h
  · omega
  · obtain ⟨e,he,hb⟩:=Array.any_eq_true'.1 h
    simp only [Bool.and_eq_true,decide_eq_true_eq] at hb
    exact ⟨e,he,hb.1,hb.2⟩
 have h3':∀ i o,i<n→l.toArray[i]? =some o→(∀ e∈o.after,Region.binds .any e=true→e.on<i)∧∀ j b,o.guard=some (j,b)→j≤n:=fun i o hi ho=>by
  have:=List.all_eq_true.1 h3 i (List.mem_range.2 (by omega))
  rw [ho] at this
  simp only [Bool.and_eq_true] at this
  refine ⟨fun e he hb=> ?_,fun j b hg=> ?_⟩
  · have h5:=Array.all_eq_true'.1 this.1 e he
    simp only [hb,Bool.not_true,Bool.false_or,decide_eq_true_eq] at h5
    exact h5
  · have h5:=this.2
    rw [hg] at h5
    simpa using h5
 have hg:∀ i o j b,i<n→l.toArray[i]? =some o→o.guard=some (j,b)→j≤n:=fun i o j b hi ho=>(h3' i o hi ho).2 j b
 have htl:(l.take n).length=n:=by simp;omega
 have inv0:HeadInv .any (l.take (n + 1)).toArray n (Array.replicate (l.take (n + 1)).toArray.size false):=
  ⟨by simp,fun j oj _ hl=>(by rw [getD_replicate_false] at hl;cases hl),fun t _ ht=>getD_in (by simpa using ht) (getD_replicate_false _ _)⟩
 have hst:=wpStill_two (ops':=(l.take (n + 1)).toArray) hops hg (l.take n) 0 a (fun j hj=>by rw [htl] at hj;simp [hj]) (by rw [htl];omega) h
 have H:=wpAnyL_lex (md:= .any) (g:=(l.take (n + 1)).toArray.size - n) hsel' hs hc hnn (l.take n) 0 _ a (fun j hj=>by
  have hj':j<n:=by rw [htl] at hj;exact hj
  simp [List.getElem?_take,hj',show j<n + 1 by omega]) (by simpa using htl) inv0 (by rw [htl];exact hlex) hst
 have two0:Two n l.toArray (Array.replicate l.toArray.size false) (Array.replicate (l.take (n + 1)).toArray.size false):=by
  refine ⟨by simp,by simp;omega,fun i hi d=> ?_,fun t _=>getD_replicate_false _ _⟩
  rw [getD_lt _ (by simp;omega),getD_lt _ (by simp;omega)];simp
 have H2:=wpAnyL_two (L2:=fun lt a'=>∃ lt',Two n l.toArray lt lt'∧Region.ready .any (l.take (n + 1)).toArray lt'=[n]∧wpOp P l.toArray Q n (fun a2 w2=>wpStill P l.toArray w2 (fun a3=>Q .normal a3 w2) (l.drop (n + 1)) a2) a' { w with drawn:=w.drawn + 1 }) hops hno hBt hg (fun lt lt' a' ht hL=>by
  refine ⟨lt',ht,?_,hL.2⟩
  have h5:=hL.1
  rw [hsz,show n + 1 - n=1 by omega] at h5
  simp only [Region.seqB,Bool.and_eq_true,decide_eq_true_eq] at h5
  exact h5.1) _ _ _ a two0 H
 rw [htl] at H2
 refine wp_region_any hm ?_
 have:=wpAny_of_head (Q':=Q) (g:=(l.toArray.size - (n + 1)) + 1) (fun lt a' hL=>by
  obtain ⟨lt',ht,hr,hop⟩:=hL
  have hall:=all_done hops hn (fun i o hi ho=>(h3' i o hi ho).1) ht hr
  have hmem:n∈Region.ready .any l.toArray lt:=(ready_two ht hops hno hBt n).2 (by rw [hr];simp)
  refine ⟨fun h0=>absurd (h0 ▸ hmem) (by simp),fun i hi=> ?_⟩
  have hin:i=n:=by have:=(ready_two ht hops hno hBt i).1 hi;rw [hr] at this;simpa using this
  subst hin
  refine wpOp_mono (fun a2 w2 hst2=> ?_) hop
  rw [done_eq hn ht hall]
  refine wpAny_of_still (Q:=fun a3=>Q .normal a3 w2) (fun _ h=>h) _ _ _ ?_
  have:=wpAnyS_lex (md:= .any) hsel (l.drop (i + 1)) (i + 1) (doneTo (i + 1) l.toArray.size) a2 (fun j=>by simp [List.getElem?_drop]) (by simpa using h4) hst2
  simpa using this) _ _ _ H2
 rw [show n + (l.toArray.size - (n + 1) + 1)=l.toArray.size by omega] at this
 exact this
theorem wpStill_mono' {Q1 Q2:Act→Prop} (h:∀ a,Q1 a→Q2 a):∀ (l:List Oper) (a:Act),wpStill P ops w Q1 l a→wpStill P ops w Q2 l a
 | [],a,h'=>h a h'
 | o::l,a,h'=>by
   unfold wpStill at h' ⊢
   split
   · rename_i hw;rw [if_pos hw] at h';exact Oper.still_mono (fun a'=>wpStill_mono' h l a') h'
   · rename_i hw;rw [if_neg hw] at h';exact wpStill_mono' h l _ h'
def takesO (o:Oper):Bool:=match o.op with
 | .extract _ _=>true
 | _=>false
def keepsO (o:Oper):Bool:=match o.op with
 | .store _ _ _ | .alloc _=>true
 | _=>false
def midT:List Oper→Bool
 | o::r=>match o.op with
   | .extract _ _=>r.any keepsO
   | .move _=>match r with
     | o2::r2=>takesO o2&&r2.any takesO&&r2.any keepsO
     | []=>false
   | _=>false
 | []=>false
def quietO (o:Oper):Bool:=match o.op with
 | .extract _ _ | .assign _ | .move _=>true
 | _=>false
theorem quiet_still {o:Oper} (h:quietO o=true) {a:Act} {w:World} {K:Act→World→Prop} {Q:Exit→Act→World→Prop} (hp:∀ c a w,¬ Q (.panic c) a w) (hw:o.wp P a w K Q):o.still P a w (fun a'=>K a' w):=by
 unfold Oper.wp at hw
 unfold Oper.still
 unfold quietO at h
 split at h
 · rename_i x k ho
   simp only [execOp,ho] at hw ⊢
   unfold Instr.extract at hw ⊢
   split at hw
   · split at hw
     · simpa [Oper.upon,Oper.stillUpon] using hw
     · simp [Oper.upon,stuck] at hw
   · simp [Oper.upon,stuck] at hw
 · rename_i x ho
   simp only [execOp,ho] at hw ⊢
   simpa [Oper.upon,Oper.stillUpon] using hw
 · rename_i x ho
   simp only [execOp,ho] at hw ⊢
   simpa [Oper.upon,Oper.stillUpon] using hw
 · cases h
theorem list_quiet {Q:Exit→Act→World→Prop} (hp:∀ c a w,¬ Q (.panic c) a w) (hl:¬ LetsOut Q):∀ (r:List Oper) (a:Act) (w:World),r.all quietO=true→wpList P ops Q r a w→wpStill P ops w (fun a3=>Q .normal a3 w) r a
 | [],_,_,_,h=>h
 | o::r,a,w,hq,h=>by
   simp only [List.all_cons,Bool.and_eq_true] at hq
   unfold wpList at h
   unfold wpStill
   split
   · rename_i hw
     rw [if_pos hw] at h
     rcases h with h | h
     · exact Oper.still_mono (fun a' h'=>list_quiet hp hl r a' w hq.2 h') (quiet_still hq.1 hp h)
     · exact absurd h.2 hl
   · rename_i hw
     rw [if_neg hw] at h
     exact list_quiet hp hl r _ w hq.2 h
def Region.nextB (ops:Array Oper) (n:Nat):Bool:=Region.midB .any ops n&&(Region.noSelect ops&&(decide (n + 1<ops.size)&&(decide (Region.ready .any ops (doneTo (n + 1) ops.size)=[n + 1])&&(Region.lexFrom .any ops (ops.size - (n + 2)) (n + 2) (doneTo (n + 2) ops.size)&&(ops.toList.drop (n + 2)).all quietO))))
theorem done_set {n s:Nat} (h:n<s):(doneTo n s).setIfInBounds n true=doneTo (n + 1) s:=by
 apply Array.ext
 · simp [doneTo];omega
 · intro i h1 h2
   have hi:i<(doneTo n s).size:=by simpa using h1
   rw [Array.getElem_setIfInBounds hi]
   simp only [doneTo,List.getElem_toArray]
   by_cases e:n=i
   · subst e
     rw [if_pos rfl,List.getElem_append_left (by simp)]
     simp
   · rw [if_neg e]
     by_cases g:i<n
     · rw [List.getElem_append_left (by simpa using g),List.getElem_append_left (by simp;omega)]
       simp
     · rw [List.getElem_append_right (by simp;omega),List.getElem_append_right (by simp;omega)]
       simp
theorem wp_region_next {id:Nat} {Q:Exit→Act→World→Prop} (hp:∀ c a w,¬ Q (.panic c) a w) (hlo:¬ LetsOut Q) {a:Act} {w:World} {l:List Oper} (n:Nat) (hm:P.follows .mixedOrders=true) (hB:Region.nextB l.toArray n=true)
 (h:wpStill P l.toArray { w with drawn:=w.drawn + 1 } (fun a'=>wpList P l.toArray Q (l.drop n) a' { w with drawn:=w.drawn + 1 }) (l.take n) a):(Code.region id l.toArray true).wp P Q a w:=by
 simp only [Region.nextB,Bool.and_eq_true,decide_eq_true_eq] at hB
 obtain ⟨hM,hsel,hn1,hr,hlx,hq⟩:=hB
 have hs1:l.toArray.size=l.length:=by simp
 have hn:n<l.length:=by omega
 have hn1':n + 1<l.length:=by omega
 refine wp_region_midA n hm hM (wpStill_mono' (fun a' h'=> ?_) _ _ h)
 have hd:l.drop n=l[n]::l[n + 1]::l.drop (n + 2):=by rw [List.drop_eq_getElem_cons hn,List.drop_eq_getElem_cons hn1']
 rw [hd] at h'
 have hw:wpOp P l.toArray Q n (wpList P l.toArray Q (l[n + 1]::l.drop (n + 2))) a' { w with drawn:=w.drawn + 1 }:=by
  unfold wpOp
  simp only [List.getElem?_toArray,List.getElem?_eq_getElem hn]
  exact h'
 refine wpOp_mono (fun a2 w2 h2=> ?_) hw
 rw [show l.toArray.size - (n + 1)=(l.toArray.size - (n + 2)) + 1 by omega]
 refine ⟨fun h1=>(by rw [hr] at h1;cases h1),fun i hi=> ?_⟩
 rw [hr] at hi
 obtain rfl:i=n + 1:=by simpa using hi
 have hw2:wpOp P l.toArray Q (n + 1) (wpList P l.toArray Q (l.drop (n + 2))) a2 w2:=by
  unfold wpOp
  simp only [List.getElem?_toArray,List.getElem?_eq_getElem hn1']
  exact h2
 refine wpOp_mono (fun a3 w3 h3=> ?_) hw2
 rw [done_set (by omega)]
 refine wpAny_of_still (Q:=fun a4=>Q .normal a4 w3) (fun _ h=>h) _ _ _ ?_
 have:=wpAnyS_lex (md:= .any) hsel (l.drop (n + 2)) (n + 2) (doneTo (n + 2) l.toArray.size) a3 (fun j=>by simp [List.getElem?_drop]) (by simpa using hlx) (list_quiet hp hlo _ a3 w3 (by simpa using hq) h3)
 simpa using this
def Region.preB (ops:Array Oper) (n:Nat):Bool:=
 Region.noSelect ops&&(decide (n<ops.size)&&(Region.sinkB .any ops n &&
 (((List.range ops.size).all fun t=>decide (t≤n)||match ops[t]? with
   | some o=>o.after.any fun e=>Region.binds .any e&&decide (n≤e.on)
   | none=>false) &&
 (((List.range (n + 1)).all fun i=>match ops[i]? with
   | some o=>(o.after.all fun e=> !Region.binds .any e||decide (e.on<i))&&(match o.guard with
     | some (j,_)=>decide (j<n)
     | none=>true)
   | none=>false) &&
 (Region.lexB .any (ops.toList.take n).toArray &&
 (Region.seqB .any ops (ops.size - n) n (doneTo n ops.size)||(decide (Region.ready .any ops (doneTo n ops.size)=[n])&&(Region.lexFrom .any ops (ops.size - (n + 1)) (n + 1) (doneTo (n + 1) ops.size)&&(ops.toList.drop (n + 1)).all quietO))))))))
structure PreI (n:Nat) (ops:Array Oper) (l l':Array Bool):Prop where
 inv:HeadInv .any ops n l
 size':l'.size=n
 same:∀ i,i<n→∀ d,l'.getD i d=l.getD i d
structure PreOK (n:Nat) (ops:Array Oper):Prop where
 lt:n<ops.size
 sink:Region.sinkB .any ops n=true
 tail:∀ t ot,n<t→ops[t]? =some ot→∃ e∈ot.after,Region.binds .any e=true∧n≤e.on
 head:∀ i o,i≤n→ops[i]? =some o→(∀ e∈o.after,Region.binds .any e=true→e.on<i)∧∀ j b,o.guard=some (j,b)→j<n
theorem PreI.set {l l':Array Bool} (h:PreI n ops l l') {i:Nat} (hr:i∈Region.ready .any ops l) (hi:i<n):PreI n ops (l.setIfInBounds i true) (l'.setIfInBounds i true):=by
 refine ⟨h.inv.set hr hi,by simp [h.size'],fun j hj d=> ?_⟩
 by_cases e:i=j
 · subst e
   have h1:=h.same i hj true
   have h0:=h.same i hj false
   have hl':i<l'.size:=by rw [h.size'];omega
   have hl:i<l.size:=by
    rcases Nat.lt_or_ge i l.size with hlt | hge
    · exact hlt
    · rw [getD_ge _ hge,getD_lt _ hl'] at h1 h0
      rw [h1] at h0;cases h0
   simp [hl,hl']
 · rw [getD_set_ne d e,getD_set_ne d e];exact h.same j hj d
theorem pre_get {l:List Oper} {n j:Nat} (hj:j<n):(l.take n).toArray[j]? =l.toArray[j]? :=by simp [List.getElem?_take,hj]
theorem ready_pre {l:List Oper} {m m':Array Bool} (O:PreOK n l.toArray) (h:PreI n l.toArray m m') {j:Nat} (hj:j<n):j∈Region.ready .any l.toArray m ↔ j∈Region.ready .any (l.take n).toArray m':=by
 rw [mem_ready,mem_ready,pre_get hj,h.same j hj]
 constructor
 · rintro ⟨hu,o,ho,hall⟩
   refine ⟨hu,o,ho,fun e he hb=> ?_⟩
   have:=(O.head j o (by omega) ho).1 e he hb
   rw [h.same _ (by omega)];exact hall e he hb
 · rintro ⟨hu,o,ho,hall⟩
   refine ⟨hu,o,ho,fun e he hb=> ?_⟩
   have:=(O.head j o (by omega) ho).1 e he hb
   rw [← h.same _ (by omega)];exact hall e he hb
theorem un_tail {m m':Array Bool} (h:PreI n ops m m') {t:Nat} (ht:n≤t):m.getD t false=false:=by
 rcases Nat.lt_or_ge t ops.size with g | g
 · exact getD_both (h.inv.tail t ht g)
 · rw [getD_ge _ (by rw [h.inv.size];exact g)]
theorem no_tail {m m':Array Bool} (O:PreOK n ops) (h:PreI n ops m m'):∀ (d i:Nat),n - i=d→i<n→m.getD i true=false→∀ t,n≤t→t ∉ Region.ready .any ops m:=by
 intro d
 induction d using Nat.strongRecOn with
 | _ d ih=>
   intro i hd hi hun t ht hr
   obtain ⟨_,ot,hot,hall⟩:=mem_ready.1 hr
   by_cases htn:t=n
   · subst htn
     have h1:=List.all_eq_true.1 O.sink i (List.mem_range.2 hi)
     obtain ⟨j,hj,hj2⟩:=List.any_eq_true.1 h1
     simp only [Bool.and_eq_true,decide_eq_true_eq] at hj2
     obtain ⟨oj,hoj,e,he,hb,hon⟩:=Region.waitsFor_spec hj2.2
     have hjle:j≤t:=by have:=List.mem_range.1 hj;omega
     by_cases hjt:j=t
     · subst hjt
       have:oj=ot:=Option.some.inj (hoj.symm.trans hot)
       subst this
       have h2:=hall e he hb
       rw [hon,getD_both hun] at h2
       cases h2
     · cases hl:m.getD j false with
       | true=>
         have h2:=h.inv.closed j oj hoj hl e he hb
         rw [hon,getD_both hun] at h2
         cases h2
       | false=>
         have hjs:j<m.size:=by rw [h.inv.size];have:=O.lt;omega
         exact ih (t - j) (by omega) j rfl (by omega) (getD_in hjs hl) t (Nat.le_refl _) hr
   · obtain ⟨e,he,hb,hon⟩:=O.tail t ot (by omega) hot
     have h2:=hall e he hb
     rw [un_tail h hon] at h2
     cases h2
theorem pre_done {l:List Oper} {m m':Array Bool} (O:PreOK n l.toArray) (h:PreI n l.toArray m m') (hr:Region.ready .any (l.take n).toArray m'=[]):m=doneTo n l.toArray.size:=by
 have hall:∀ i,i<n→m.getD i false=true:=by
  intro i
  induction i using Nat.strongRecOn with
  | _ i ih=>
    intro hi
    cases hl:m.getD i false with
    | true=>rfl
    | false=>
      exfalso
      have hlt:=O.lt
      have hi':i<l.toArray.size:=by omega
      have hmem:i∈Region.ready .any (l.take n).toArray m':=by
       rw [← ready_pre O h hi,mem_ready]
       refine ⟨getD_in (by rw [h.inv.size];omega) hl,l.toArray[i],by simp [hi'],fun e he hb=> ?_⟩
       have:=(O.head i l.toArray[i] (by omega) (by simp [hi'])).1 e he hb
       exact ih _ this (by omega)
      rw [hr] at hmem
      cases hmem
 have hsz:=h.inv.size
 apply Array.ext
 · simp [doneTo,hsz];have:=O.lt;simp at this;omega
 · intro i h1 h2
   simp only [doneTo,List.getElem_toArray]
   rcases Nat.lt_or_ge i n with hlt | hge
   · rw [List.getElem_append_left (by simp;omega)]
     have:=hall i hlt
     rw [getD_lt _ h1] at this
     simpa using this
   · rw [List.getElem_append_right (by simp;omega)]
     have:=un_tail h hge
     rw [getD_lt _ h1] at this
     simpa using this
theorem Oper.wp_monoQ {o:Oper} {a:Act} {w:World} {K K':Act→World→Prop} {Q Q':Exit→Act→World→Prop} (h:∀ a w,K a w→K' a w) (hp:∀ c a w,Q (.panic c) a w→Q' (.panic c) a w) (hl:LetsOut Q→LetsOut Q')
 (hh:o.wp P a w K Q):o.wp P a w K' Q':=by
 unfold Oper.wp at *
 generalize (execOp a.eval o).run P w=r at *
 cases r with
 | ok n w'=>
   cases n<;>simp only [Oper.upon] at hh ⊢ <;>
    first
     | exact h _ _ hh
     | exact Calls.mono hh (fun e w'' he=>by cases e<;>first | exact h _ _ he | exact hp _ _ _ he | exact hl he)
     | exact Rows.mono hh (fun _ _ he=>h _ _ he)
 | halt x w'=>cases x<;>simp only [Oper.upon] at hh ⊢<;>first | exact hp _ _ _ hh | exact hh
theorem wpAny_more {Q:Exit→Act→World→Prop}:∀ (f:Nat) (m:Array Bool) (a:Act) (w:World),wpAny P md ops Q f m a w→wpAny P md ops Q (f + 1) m a w
 | 0,m,a,w,h=>⟨fun _=>h.2,fun i hi=>by rw [h.1] at hi;cases hi⟩
 | f + 1,m,a,w,h=>⟨h.1,fun i hi=>wpOp_mono (fun a w h=>wpAny_more f _ a w h) (h.2 i hi)⟩
def thenQ (K:Act→World→Prop):Exit→Act→World→Prop
 | .normal,a,w=>K a w
 | _,_,_=>False
theorem wpOp_pre {l:List Oper} {Q:Exit→Act→World→Prop} {R K K':Act→World→Prop} (O:PreOK n l.toArray) {i:Nat} (hi:i<n) {a:Act} {w:World} (hK:∀ a w,K a w→K' a w) (h:wpOp P (l.take n).toArray (thenQ R) i K a w):wpOp P l.toArray Q i K' a w:=by
 unfold wpOp at *
 rw [pre_get hi] at h
 cases ho:l.toArray[i]? with
 | none=>rw [ho] at h;exact hK _ _ h
 | some o=>
   rw [ho] at h
   dsimp only at h ⊢
   have hw:Region.wanted o (yielded l.toArray a.tmps)=Region.wanted o (yielded (l.take n).toArray a.tmps):=by
    unfold Region.wanted
    cases hgd:o.guard with
    | none=>rfl
    | some jb=>
      obtain ⟨j,b⟩:=jb
      have:=(O.head i o (by omega) ho).2 j b hgd
      simp only [yielded,pre_get this]
   rw [hw]
   split
   · rename_i hwt
     rw [if_pos hwt] at h
     rcases h with h | ⟨-,a',w',h⟩
     · exact .inl (Oper.wp_monoQ hK (fun _ _ _ h=>h.elim) (fun ⟨_,_,h⟩=>h.elim) h)
     · exact h.elim
   · rename_i hwt
     rw [if_neg hwt] at h
     exact hK _ _ h
theorem wpAny_pre {l:List Oper} {Q:Exit→Act→World→Prop} {R:Act→World→Prop} (O:PreOK n l.toArray) {g:Nat} (hR:∀ a w,R a w→wpAny P .any l.toArray Q g (doneTo n l.toArray.size) a w) :
 ∀ (f:Nat) (m m':Array Bool) (a:Act) (w:World),PreI n l.toArray m m'→wpAny P .any (l.take n).toArray (thenQ R) f m' a w→wpAny P .any l.toArray Q (f + g) m a w
 | 0,m,m',a,w,h,hw=>by
   rw [Nat.zero_add,pre_done O h hw.1]
   exact hR a w hw.2
 | f + 1,m,m',a,w,h,hw=>by
   cases hr:Region.ready .any (l.take n).toArray m' with
   | nil=>
     rw [pre_done O h hr]
     have h1:=hR a w (hw.1 hr)
     clear hw hr h
     induction f with
     | zero=>rw [show 0 + 1 + g=g + 1 by omega];exact wpAny_more g _ a w h1
     | succ f ih=>rw [show f + 1 + 1 + g=(f + 1 + g) + 1 by omega];exact wpAny_more _ _ a w ih
   | cons x xs=>
     have hx:x∈Region.ready .any (l.take n).toArray m':=by rw [hr];simp
     have hxn:x<n:=by
      obtain ⟨hu,o,ho,_⟩:=mem_ready.1 hx
      have:=(Array.getElem?_eq_some_iff.1 ho).1
      simp at this
      omega
     have hxr:=(ready_pre O h hxn).2 hx
     have hxu:=(mem_ready.1 hxr).1
     rw [show f + 1 + g=(f + g) + 1 by omega]
     refine ⟨fun h0=>(by rw [h0] at hxr;cases hxr),fun i hi=> ?_⟩
     have hin:i<n:=by
      rcases Nat.lt_or_ge i n with g1 | g1
      · exact g1
      · exact absurd hi (no_tail O h (n - x) x rfl hxn hxu i g1)
     exact wpOp_pre O hin (fun a w h'=>wpAny_pre O hR f _ _ a w (h.set hi hin) h') (hw.2 i ((ready_pre O h hin).1 hi))
def addE:List Oper→Nat→List Oper
 | [],_=>[]
 | o::r,0=>{ o with after:=o.after.push ⟨0,.data⟩ }::r
 | o::r,n + 1=>o::addE r n
def isMove (o:Oper):Bool:=match o.op,o.guard with
 | .move _,none=> !(o.after.any fun e=>Region.binds .any e)
 | _,_=>false
def floatB (ops:Array Oper) (n:Nat):Bool:=Region.noSelect ops&&(decide (0<n)&&(decide (n<ops.size)&&match ops.toList with
 | []=>false
 | o::r=>isMove o&&r.all fun x=>(x.after.any fun e=>Region.binds .any e&&Nat.beq e.on 0)||o.apart ops x))
theorem addE_len:∀ {l:List Oper} {n:Nat},(addE l n).length=l.length
 | [],_=>rfl
 | _::_,0=>rfl
 | _::_,n + 1=>congrArg (· + 1) addE_len
theorem addE_get:∀ {l:List Oper} {n i:Nat},(addE l n)[i]? =(l[i]?).map fun o=>if i=n then { o with after:=o.after.push ⟨0,.data⟩ } else o
 | [],_,_=>by simp [addE]
 | o::r,0,0=>by simp [addE]
 | o::r,0,i + 1=>by simp [addE]
 | o::r,n + 1,0=>by simp [addE]
 | o::r,n + 1,i + 1=>by
   simp only [addE,List.getElem?_cons_succ]
   rw [addE_get]
   simp
theorem addE_take:∀ {l:List Oper} {n:Nat},(addE l n).take n=l.take n
 | [],_=>rfl
 | _::_,0=>rfl
 | o::r,n + 1=>by simp only [addE,List.take_succ_cons,addE_take]
theorem yielded_add {l:List Oper} {n:Nat} (t:Array Value):yielded (addE l n).toArray t=yielded l.toArray t:=by
 funext j
 have:((addE l n).toArray[j]?).bind (·.dst)=(l.toArray[j]?).bind (·.dst):=by
  simp only [List.getElem?_toArray]
  rw [addE_get]
  cases l[j]? with
  | none=>rfl
  | some o=>by_cases e:j=n<;>simp [e]
 simp only [yielded,this]
theorem wpOp_add {l:List Oper} {n i:Nat} {Q:Exit→Act→World→Prop} {K:Act→World→Prop} {a:Act} {w:World}:wpOp P (addE l n).toArray Q i K a w=wpOp P l.toArray Q i K a w:=by
 unfold wpOp
 rw [yielded_add]
 simp only [List.getElem?_toArray]
 rw [addE_get]
 cases l[i]? with
 | none=>rfl
 | some o=>by_cases e:i=n<;>simp only [e,Option.map_some,if_true,if_false]<;>rfl
theorem wpList_add {l:List Oper} {n:Nat} {Q:Exit→Act→World→Prop}:∀ {r r':List Oper},r.length=r'.length→(∀ (i:Nat) (o o':Oper),r[i]? =some o→r'[i]? =some o'→o'.op=o.op∧o'.dst=o.dst∧o'.guard=o.guard∧o'.type=o.type∧o'.pos=o.pos)→∀ {a:Act} {w:World},wpList P (addE l n).toArray Q r' a w=wpList P l.toArray Q r a w
 | [],[],_,_,_,_=>rfl
 | o::r,o'::r',hl,h,a,w=>by
   have ih:∀ a w,wpList P (addE l n).toArray Q r' a w=wpList P l.toArray Q r a w:=fun a w=>wpList_add (by simpa using hl) (fun i=>by simpa using h (i + 1))
   obtain ⟨h1,h2,h3,h4,h5⟩:=h 0 o o' (by simp) (by simp)
   obtain ⟨d,op,ty,pos,af,g⟩:=o
   obtain ⟨d',op',ty',pos',af',g'⟩:=o'
   dsimp only at h1 h2 h3 h4 h5
   subst h1 h2 h3 h4 h5
   unfold wpList
   rw [yielded_add]
   have e:(wpList P (addE l n).toArray Q r':Act→World→Prop)=wpList P l.toArray Q r:=funext fun a=>funext fun w=>ih a w
   rw [e]
   rfl
 | [],_::_,hl,_,_,_=>by simp at hl
 | _::_,[],hl,_,_,_=>by simp at hl
theorem yields_move {o:Oper} (h:isMove o=true) (a:Act):∃ v,Yields P ops o v a:=by
 unfold isMove at h
 split at h
 · rename_i x ho hg
   refine ⟨a.eval x,.inl ⟨by simp [Region.wanted,hg],fun w=> ?_⟩⟩
   simp [execOp,ho]
 · cases h
theorem wpOp_yields {o:Oper} {i:Nat} {v:Value} {Q:Exit→Act→World→Prop} {K:Act→World→Prop} {a:Act} {w:World} (ho:ops[i]? =some o) (hlo:¬ LetsOut Q) (hy:Yields P ops o v a) (h:wpOp P ops Q i K a w):K (a.put o.dst v) w:=by
 unfold wpOp at h
 rw [ho] at h
 dsimp only at h
 rcases hy with ⟨hw,hv⟩ | ⟨hw,rfl⟩
 · rw [if_pos hw] at h
   rcases h with h | ⟨-,h⟩
   · simpa only [Oper.wp,hv w,Oper.upon] using h
   · exact absurd h hlo
 · rw [if_neg (by rw [hw];simp)] at h
   exact h
structure FloatOK (l:List Oper) (n:Nat) (o:Oper):Prop where
 sel:Region.noSelect l.toArray=true
 pos:0<n
 lt:n<l.length
 first:l[0]? =some o
 move:isMove o=true
 apart:∀ i x,0<i→l[i]? =some x→(∃ e∈x.after,Region.binds .any e=true∧e.on=0)∨o.apart l.toArray x=true
theorem floatB_ok {l:List Oper} {n:Nat} (h:floatB l.toArray n=true):∃ o,FloatOK l n o:=by
 unfold floatB at h
 simp only [Bool.and_eq_true,decide_eq_true_eq] at h
 obtain ⟨h1,h2,h3,h4⟩:=h
 cases l with
 | nil=>cases h4
 | cons o r=>
   simp only [Bool.and_eq_true] at h4
   refine ⟨o,h1,h2,by simpa using h3,rfl,h4.1,fun i x hi hx=> ?_⟩
   cases i with
   | zero=>omega
   | succ i=>
     have:=List.all_eq_true.1 h4.2 x (List.mem_of_getElem? (by simpa using hx))
     simp only [Bool.or_eq_true] at this
     rcases this with h | h
     · obtain ⟨e,he,hb⟩:=Array.any_eq_true'.1 h
       simp only [Bool.and_eq_true] at hb
       exact .inl ⟨e,he,hb.1,by simpa using hb.2⟩
     · exact .inr h
theorem FloatOK.free {l:List Oper} {n:Nat} {o:Oper} (O:FloatOK l n o):∀ e∈o.after,Region.binds .any e=true→False:=by
 intro e he hb
 have h:=O.move
 unfold isMove at h
 split at h
 · simp only [Bool.not_eq_true'] at h
   have:(o.after.any fun e=>Region.binds .any e)=true:=Array.any_eq_true'.2 ⟨e,he,hb⟩
   rw [this] at h;cases h
 · cases h
theorem ready_add {l:List Oper} {n i:Nat} {m:Array Bool} (h:i∈Region.ready .any l.toArray m) (hn:i=n→m.getD 0 false=true):i∈Region.ready .any (addE l n).toArray m:=by
 rw [mem_ready] at h ⊢
 obtain ⟨h1,o,h2,h3⟩:=h
 refine ⟨h1,if i=n then { o with after:=o.after.push ⟨0,.data⟩ } else o,?_,fun e he hb=> ?_⟩
 · simp only [List.getElem?_toArray] at h2 ⊢
   rw [addE_get,h2];rfl
 · split at he
   · rename_i hi
     rcases Array.mem_push.1 he with he | rfl
     · exact h3 e he hb
     · exact hn hi
   · exact h3 e he hb
theorem ready_less {l:List Oper} {n i:Nat} {m:Array Bool} (h:i∈Region.ready .any (addE l n).toArray m):i∈Region.ready .any l.toArray m:=by
 rw [mem_ready] at h ⊢
 obtain ⟨h1,o',h2,h3⟩:=h
 simp only [List.getElem?_toArray] at h2 ⊢
 rw [addE_get] at h2
 cases ho:l[i]? with
 | none=>rw [ho] at h2;cases h2
 | some o=>
   rw [ho] at h2
   simp only [Option.map_some,Option.some.injEq] at h2
   refine ⟨h1,o,rfl,fun e he hb=>h3 e ?_ hb⟩
   rw [← h2]
   split
   · exact Array.mem_push.2 (.inl he)
   · exact he
theorem ready_zero {l:List Oper} {n:Nat} {o:Oper} (O:FloatOK l n o) {m:Array Bool} (h:m.getD 0 true=false):0∈Region.ready .any l.toArray m:=
 mem_ready.2 ⟨h,o,by simpa using O.first,fun e he hb=>(O.free e he hb).elim⟩
theorem set_ready {ops:Array Oper} {m:Array Bool} {i:Nat} (h:i∈Region.ready .any ops m) (hi:i≠0) (h0:m.getD 0 true=false):i∈Region.ready .any ops (m.setIfInBounds 0 true):=by
 rw [mem_ready] at h ⊢
 obtain ⟨h1,o,h2,h3⟩:=h
 refine ⟨by rw [getD_set_ne _ (Ne.symm hi)];exact h1,o,h2,fun e he hb=> ?_⟩
 by_cases e0:e.on=0
 · have:=h3 e he hb
   rw [e0] at this ⊢
   have hlt:0<m.size:=by
    rcases Nat.lt_or_ge 0 m.size with g | g
    · exact g
    · rw [getD_ge _ g] at h0;cases h0
   simp [hlt]
 · rw [getD_set_ne _ (Ne.symm e0)];exact h3 e he hb
theorem float_any {l:List Oper} {n:Nat} {o:Oper} {Q:Exit→Act→World→Prop} (O:FloatOK l n o) (hp:∀ c a w,¬ Q (.panic c) a w) (hlo:¬ LetsOut Q):∀ fuel:Nat,
 (∀ m a w,wpAny P .any (addE l n).toArray Q fuel m a w→wpAny P .any l.toArray Q fuel m a w) ∧
 ∀ m a w v,m.getD 0 true=false→m.getD n true=true→Yields P l.toArray o v a→wpAny P .any (addE l n).toArray Q fuel (m.setIfInBounds 0 true) (a.put o.dst v) w→wpAny P .any l.toArray Q (fuel + 1) m a w:=by
 have ho:l.toArray[0]? =some o:=by simpa using O.first
 have hsel:=Region.noSelect_spec O.sel
 have hz:∀ {m:Array Bool},m.getD 0 true=false→m.getD 0 false=false:=fun {m} h=>getD_both h
 intro fuel
 induction fuel using Nat.strongRecOn with
 | _ fuel ih=>
   have hA:∀ m a w,wpAny P .any (addE l n).toArray Q fuel m a w→wpAny P .any l.toArray Q fuel m a w:=by
    cases fuel with
    | zero=>
      intro m a w h
      refine ⟨?_,h.2⟩
      refine List.eq_nil_iff_forall_not_mem.2 fun i hi=> ?_
      by_cases hn:i=n→m.getD 0 false=true
      · have:=ready_add hi hn
        rw [h.1] at this;cases this
      · simp only [Classical.not_imp,Bool.not_eq_true] at hn
        have h0:m.getD 0 true=false:=by
         rcases Nat.lt_or_ge 0 m.size with g | g
         · exact getD_in g hn.2
         · have h1:=(mem_ready.1 hi).1
           rw [getD_ge _ (by omega)] at h1;cases h1
        have:=ready_add (n:=n) (ready_zero O h0) (fun e=>by have:=O.pos;omega)
        rw [h.1] at this;cases this
    | succ f=>
      intro m a w h
      refine ⟨fun e=>h.1 (List.eq_nil_iff_forall_not_mem.2 fun i hi=>by have:=ready_less hi;rw [e] at this;cases this),fun i hi=> ?_⟩
      by_cases hn:i=n→m.getD 0 false=true
      · have:=h.2 i (ready_add hi hn)
        rw [wpOp_add] at this
        exact wpOp_mono (fun a w h=>(ih f (by omega)).1 _ a w h) this
      · simp only [Classical.not_imp,Bool.not_eq_true] at hn
        obtain ⟨rfl,h00⟩:=hn
        have h0:m.getD 0 true=false:=by
         rcases Nat.lt_or_ge 0 m.size with g | g
         · exact getD_in g h00
         · have h1:=(mem_ready.1 hi).1
           rw [getD_ge _ (by omega)] at h1;cases h1
        obtain ⟨v,hy⟩:=yields_move (P:=P) (ops:=l.toArray) O.move a
        have h1:=h.2 0 (ready_add (ready_zero O h0) (fun e=>by have:=O.pos;omega))
        rw [wpOp_add] at h1
        have h2:=wpOp_yields ho hlo hy h1
        have hi0:i≠0:=by have:=O.pos;omega
        have hr:=ready_add (n:=i) (set_ready hi hi0 h0) (fun _=>by
         have hlt:0<m.size:=by
          rcases Nat.lt_or_ge 0 m.size with g | g
          · exact g
          · rw [getD_ge _ g] at h0;cases h0
         simp [hlt])
        obtain ⟨hun,oi,hoi,hall⟩:=mem_ready.1 hi
        have hap:o.apart l.toArray oi=true:=by
         rcases O.apart i oi (by omega) (by simpa using hoi) with ⟨e,he,hb,h3⟩ | h3
         · have:=hall e he hb
           rw [h3,h00] at this;cases this
         · exact h3
        cases f with
        | zero=>rw [h2.1] at hr;cases hr
        | succ f2=>
          have h3:=h2.2 i hr
          rw [wpOp_add] at h3
          have h4:=wpOp_put hoi hap (fun cs b=>hsel 0 o cs b ho) (fun cs b=>hsel i oi cs b hoi) (fun c _ _ hq=>absurd hq (hp c _ _)) hy h3
          refine wpOp_mono (fun a' w' h'=> ?_) h4
          have hlt:i<m.size:=by
           rcases Nat.lt_or_ge i m.size with g | g
           · exact g
           · rw [getD_ge _ g] at hun;cases hun
          refine (ih f2 (by omega)).2 _ a' w' v ?_ ?_ h'.1 ?_
          · rw [getD_set_ne _ hi0];exact h0
          · simp [hlt]
          · rw [Array.setIfInBounds_comm _ _ hi0];exact h'.2
   refine ⟨hA,fun m a w v h0 hn hy h=>⟨fun e=> ?_,fun i hi=> ?_⟩⟩
   · have:=ready_zero O h0
     rw [e] at this;cases this
   · by_cases hi0:i=0
     · subst hi0
       exact hy.wpOp ho (hA _ _ _ h)
     · obtain ⟨hun,oi,hoi,hall⟩:=mem_ready.1 hi
       have hap:o.apart l.toArray oi=true:=by
        rcases O.apart i oi (by omega) (by simpa using hoi) with ⟨e,he,hb,h3⟩ | h3
        · have:=hall e he hb
          rw [h3,hz h0] at this;cases this
        · exact h3
       have hr:=ready_add (n:=n) (set_ready hi hi0 h0) (fun e=>by rw [e,hn] at hun;cases hun)
       cases fuel with
       | zero=>rw [h.1] at hr;cases hr
       | succ f2=>
         have h3:=h.2 i hr
         rw [wpOp_add] at h3
         have h4:=wpOp_put hoi hap (fun cs b=>hsel 0 o cs b ho) (fun cs b=>hsel i oi cs b hoi) (fun c _ _ hq=>absurd hq (hp c _ _)) hy h3
         refine wpOp_mono (fun a' w' h'=> ?_) h4
         have hlt:i<m.size:=by
          rcases Nat.lt_or_ge i m.size with g | g
          · exact g
          · rw [getD_ge _ g] at hun;cases hun
         refine (ih f2 (by omega)).2 _ a' w' v ?_ ?_ h'.1 ?_
         · rw [getD_set_ne _ hi0];exact h0
         · by_cases e:i=n
           · subst e;simp [hlt]
           · rw [getD_set_ne _ e];exact hn
         · rw [Array.setIfInBounds_comm _ _ hi0];exact h'.2
theorem any_pre {Q:Exit→Act→World→Prop} (hp:∀ c a w,¬ Q (.panic c) a w) (hlo:¬ LetsOut Q) {a:Act} {w:World} {l:List Oper} (n:Nat) (hB:Region.preB l.toArray n=true)
 (h:wpAny P .any (l.take n).toArray (thenQ (wpList P l.toArray Q (l.drop n))) (l.take n).toArray.size (Array.replicate (l.take n).toArray.size false) a w):wpAny P .any l.toArray Q l.toArray.size (Array.replicate l.toArray.size false) a w:=by
 simp only [Region.preB,Bool.and_eq_true,decide_eq_true_eq] at hB
 obtain ⟨hsel,hn,hs,h2,h3,hlx,ht⟩:=hB
 have hn':n<l.length:=by simpa using hn
 have O:PreOK n l.toArray:=by
  refine ⟨hn,hs,fun t ot ht hot=> ?_,fun i o hi ho=> ?_⟩
  · have htl:t<l.toArray.size:=(Array.getElem?_eq_some_iff.1 hot).1
    have:=List.all_eq_true.1 h2 t (List.mem_range.2 htl)
    rw [hot] at this
    simp only [Bool.or_eq_true,decide_eq_true_eq] at this
    rcases this with h | h
    · omega
    · obtain ⟨e,he,hb⟩:=Array.any_eq_true'.1 h
      simp only [Bool.and_eq_true,decide_eq_true_eq] at hb
      exact ⟨e,he,hb.1,hb.2⟩
  · have:=List.all_eq_true.1 h3 i (List.mem_range.2 (by omega))
    rw [ho] at this
    simp only [Bool.and_eq_true] at this
    refine ⟨fun e he hb=> ?_,fun j b hg=> ?_⟩
    · have h5:=Array.all_eq_true'.1 this.1 e he
      simp only [hb,Bool.not_true,Bool.false_or,decide_eq_true_eq] at h5
      exact h5
    · have h5:=this.2
      rw [hg] at h5
      simpa using h5
 have hdl:(l.drop n).length=l.toArray.size - n:=by simp
 have hR:∀ a w,wpList P l.toArray Q (l.drop n) a w→wpAny P .any l.toArray Q (l.toArray.size - n) (doneTo n l.toArray.size) a w:=fun a w h'=>by
  rw [Bool.or_eq_true] at ht
  rcases ht with ht | ht
  · have:=wpAny_of_seq (md:= .any) (Q':=Q) (l.drop n) n (doneTo n l.toArray.size) a w (fun j=>by simp [List.getElem?_drop]) (by rw [hdl];exact ht) h'
    rwa [hdl] at this
  · simp only [Bool.and_eq_true,decide_eq_true_eq] at ht
    obtain ⟨hr,hlx2,hq⟩:=ht
    have hd:l.drop n=l[n]::l.drop (n + 1):=List.drop_eq_getElem_cons hn'
    rw [hd] at h'
    have hw2:wpOp P l.toArray Q n (wpList P l.toArray Q (l.drop (n + 1))) a w:=by
     unfold wpOp
     simp only [List.getElem?_toArray,List.getElem?_eq_getElem hn']
     exact h'
    rw [show l.toArray.size - n=(l.toArray.size - (n + 1)) + 1 by omega]
    refine ⟨fun h1=>(by rw [hr] at h1;cases h1),fun i hi=> ?_⟩
    rw [hr] at hi
    obtain rfl:i=n:=by simpa using hi
    refine wpOp_mono (fun a3 w3 h3=> ?_) hw2
    rw [done_set hn]
    refine wpAny_of_still (Q:=fun a4=>Q .normal a4 w3) (fun _ h=>h) _ _ _ ?_
    have:=wpAnyS_lex (md:= .any) hsel (l.drop (i + 1)) (i + 1) (doneTo (i + 1) l.toArray.size) a3 (fun j=>by simp [List.getElem?_drop]) (by simpa using hlx2) (list_quiet hp hlo _ a3 w3 (by simpa using hq) h3)
    simpa using this
 have hsz:(l.take n).toArray.size=n:=by simp;omega
 have:=wpAny_pre O hR (l.take n).toArray.size (Array.replicate l.toArray.size false) (Array.replicate (l.take n).toArray.size false) a _ ⟨⟨by simp,fun j oj _ hl=>(by rw [getD_replicate_false] at hl;cases hl),fun t _ ht=>getD_in (by simpa using ht) (getD_replicate_false _ _)⟩,by rw [Array.size_replicate,hsz],fun i hi d=>by
  rw [getD_lt _ (by simp;omega),getD_lt _ (by simp;omega)];simp⟩ h
 rw [hsz,show n + (l.toArray.size - n)=l.toArray.size by omega] at this
 exact this
def Region.preF (ops:Array Oper) (n:Nat):Bool:=Region.preB ops n||(floatB ops n&&Region.preB (addE ops.toList n).toArray n)
theorem preF_lex {l:List Oper} {n:Nat} (h:Region.preF l.toArray n=true):Region.lexB .any (l.take n).toArray=true:=by
 simp only [Region.preF,Bool.or_eq_true,Bool.and_eq_true] at h
 rcases h with h | ⟨-,h⟩
 · simp only [Region.preB,Bool.and_eq_true] at h
   exact h.2.2.2.2.2.1
 · simp only [Region.preB,Bool.and_eq_true] at h
   have:=h.2.2.2.2.2.1
   simpa only [addE_take] using this
theorem wp_region_pre {id:Nat} {Q:Exit→Act→World→Prop} (hp:∀ c a w,¬ Q (.panic c) a w) (hlo:¬ LetsOut Q) {a:Act} {w:World} {l:List Oper} (n:Nat) (hm:P.follows .mixedOrders=true) (hB:Region.preF l.toArray n=true)
 (h:wpAny P .any (l.take n).toArray (thenQ (wpList P l.toArray Q (l.drop n))) (l.take n).toArray.size (Array.replicate (l.take n).toArray.size false) a { w with drawn:=w.drawn + 1 }):(Code.region id l.toArray true).wp P Q a w:=by
 refine wp_region_any hm ?_
 simp only [Region.preF,Bool.or_eq_true,Bool.and_eq_true] at hB
 rcases hB with hB | ⟨hF,hB⟩
 · exact any_pre hp hlo n hB h
 · obtain ⟨o,O⟩:=floatB_ok hF
   have hl:(addE l n).toArray.size=l.toArray.size:=by simp [addE_len]
   have h2:=any_pre (P:=P) (Q:=Q) hp hlo (a:=a) (w:={ w with drawn:=w.drawn + 1 }) (l:=addE l n) n hB (by
    rw [addE_take]
    have e:wpList P (addE l n).toArray Q ((addE l n).drop n)=wpList P l.toArray Q (l.drop n):=funext fun a=>funext fun w=>wpList_add (by simp [addE_len]) (fun i o o' h1 h2=>by
     rw [List.getElem?_drop] at h1 h2
     rw [addE_get,h1] at h2
     simp only [Option.map_some,Option.some.injEq] at h2
     rw [← h2]
     split<;>exact ⟨rfl,rfl,rfl,rfl,rfl⟩)
    rw [e];exact h)
   rw [hl] at h2
   exact (float_any O hp hlo _).1 _ _ _ h2
def Region.tailB (ops:Array Oper) (n:Nat):Bool:=Region.lexTailB .any ops n||((Region.midB .any ops n&&(ops.toList.drop (n + 1)).all quietO)||Region.nextB ops n)
theorem wp_region_tail {id:Nat} {Q:Exit→Act→World→Prop} (hp:∀ c a w,¬ Q (.panic c) a w) (hlo:¬ LetsOut Q) {a:Act} {w:World} {l:List Oper} (n:Nat) (hm:P.follows .mixedOrders=true) (hB:Region.tailB l.toArray n=true)
 (h:wpStill P l.toArray { w with drawn:=w.drawn + 1 } (fun a'=>wpList P l.toArray Q (l.drop n) a' { w with drawn:=w.drawn + 1 }) (l.take n) a):(Code.region id l.toArray true).wp P Q a w:=by
 simp only [Region.tailB,Bool.or_eq_true,Bool.and_eq_true] at hB
 rcases hB with hB | ⟨hB,hq⟩ | hB
 · exact wp_region_still_tail n hm hB h
 rotate_left 1
 · exact wp_region_next hp hlo n hm hB h
 · refine wp_region_mid n hm hB (wpStill_mono' (fun a' h'=> ?_) _ _ h)
   have hn:n<l.length:=by
    simp only [Region.midB,Bool.and_eq_true,decide_eq_true_eq] at hB
    simpa using hB.1.1.1.2
   have hd:l.drop n=l[n]::l.drop (n + 1):=List.drop_eq_getElem_cons hn
   rw [hd] at h'
   have hw:wpOp P l.toArray Q n (wpList P l.toArray Q (l.drop (n + 1))) a' { w with drawn:=w.drawn + 1 }:=by
    unfold wpOp
    simp only [List.getElem?_toArray,List.getElem?_eq_getElem hn]
    exact h'
   exact wpOp_mono (fun a2 w2 h2=>list_quiet hp hlo _ a2 w2 (by simpa using hq) h2) hw
end
section
variable {P : Program} (w : World)
theorem run_append_own_src (base:Nat) (t tx ty e:TypeId) (i:TypeInfo) (z:Value) (size bytes:Nat) (ht:P.underlying t=some (.slice e)) (hi:P.info? e=some i) (hz:i.zero=some z)
 (hsize:i.size=size) (hby:i.bytes=bytes) (hzs:z.cells.size=size) (hsz:0<size)
 (v:Value) (n:Nat) (xs:List Value) (hown:w.ownsRow base e size v n xs)
 (x:Value) (m:Nat) (news:List Value) (hs:Src P size tx x m news w)
 (h63:n + m≤maxLen) (hbytes:(n + m)*bytes≤140737488355328) (hbase:base≤w.heap.size) :
 ∃ v' w',(Builtin.append_ #[t,tx] ty #[v,x]).run P w= .ok v' w'∧w'.ownsRow base e size v' (n + m) (xs++news)∧w.grownBy w' v.ownBlock ∧
   (v'= .slice none 0 0 ↔ v= .slice none 0 0∧m=0)∧(v'.ownBlock=v.ownBlock∨v'.ownBlock=some w.heap.size):=by
 subst hsize
 subst hby
 have hl:=hs.newsLen
 have hsmall:n + m≤9223372036854775807:=by simp only [maxLen] at h63;omega
 have hlen:(xs++news).length=(n + m)*i.size:=by rw [List.length_append,hown.1,hl,Nat.add_mul]
 have grown:∀ (old:Nat),old<n + m→∀ (row:Option Nat),
  (w.drew.alloc (.cells ((xs++news).toArray++Builtin.zeroCells z.cells (grownCap w (n + m) old e - (n + m))) e)).ownsRow base e i.size
    (.slice (some ⟨w.heap.size,0,none⟩) (n + m) (grownCap w (n + m) old e)) (n + m) (xs++news) ∧
  w.grownBy (w.drew.alloc (.cells ((xs++news).toArray++Builtin.zeroCells z.cells (grownCap w (n + m) old e - (n + m))) e)) row:=by
  intro old ho row
  have hge:=grownCap_ge w (n + m) old e
  have hcm:grownCap w (n + m) old e≤maxLen:=grownCap_le_maxLen w (n + m) old e h63
  refine ⟨⟨hlen,.inr ⟨w.heap.size,_,_,rfl,hbase,heap_alloc_new w.drew _,hge,hcm,?_,?_⟩⟩,⟨rfl,rfl,rfl,by simp,fun k hk _=>heap_alloc_old w.drew _ k hk⟩⟩
  · simp only [Array.size_append,List.size_toArray,size_zeroCells,hzs,hlen,← Nat.add_mul]
    congr 1
    omega
  · simp only [Array.toList_append]
    rw [← hlen]
    exact List.take_left
 rcases hown.2 with ⟨rfl,rfl⟩ | ⟨g,cap,cur,rfl,hbg,hg,hnc,hcm,hcs,htake⟩
 · have hx:xs=[]:=List.eq_nil_of_length_eq_zero (by simpa using hown.1)
   subst hx
   by_cases hm:m=0
   · subst hm
     have hn:news=[]:=List.eq_nil_of_length_eq_zero (by simpa using hl)
     subst hn
     refine ⟨.slice none 0 0,w,?_,World.ownsRow_nil w base e i.size,⟨rfl,rfl,rfl,Nat.le_refl _,fun _ _ _=>rfl⟩,by simp,Or.inl rfl⟩
     rcases hs.kind with ⟨e',hk⟩ | hk<;>simp [Builtin.append_,run_underlying ht,run_underlying hk,sizeOf,typeInfo,hi,hs.len,hs.cells,storeCells]
   · have hr:=run_append_grow_src (P:=P) w t tx ty e i z ht hi hz none 0 0 [] (run_firstCells_none w.drew i.size 0 0 0) x m news hs (by omega) (by omega) (growslice_fits (by omega) hbytes)
     have hgr:=grown 0 (by omega) (Value.ownBlock (.slice none 0 0))
     exact ⟨_,_,hr,hgr.1,hgr.2,by simp [hm],Or.inr rfl⟩
 · by_cases hroom:n + m≤cap
   · have hfit:n*i.size + news.length≤cur.size:=by rw [hl,hcs,← Nat.add_mul];exact Nat.mul_le_mul_right _ hroom
     have hst:=run_storeCells_at P g (n*i.size) e news 0 cur w hg (by simpa using hfit) hs.one
     simp only [Nat.add_zero] at hst
     have hr:(Builtin.append_ #[t,tx] ty #[.slice (some ⟨g,0,none⟩) n cap,x]).run P w =
      .ok (.slice (some ⟨g,0,none⟩) (n + m) cap) (w.setRow g (cur.toList.take (n*i.size)++news++cur.toList.drop (n*i.size + news.length)).toArray):=by
      rcases hs.kind with ⟨e',hk⟩ | hk<;>simp [Builtin.append_,run_underlying ht,run_underlying hk,sizeOf,typeInfo,hi,hs.len,hroom,hs.cells,Addr.add_lit,hst]
     refine ⟨_,_,hr,⟨hlen,.inr ⟨g,cap,_,rfl,hbg,setRow_heap w g cur _ e _ hg,hroom,hcm,?_,?_⟩⟩,⟨rfl,rfl,rfl,by simp,fun k _ hk=>setRow_other w g k _ (fun e=>hk (by simp [Value.ownBlock,e]))⟩,by simp,Or.inl rfl⟩
     · simp only [List.size_toArray,List.length_append,List.length_take,List.length_drop,Array.length_toList]
       omega
     · rw [htake,← hlen]
       exact List.take_left
   · have holds:∀ j u,xs[j]? =some u→w.cell? ((⟨g,0,none⟩:Addr).add j)=some u:=hown.cells (g:=g) rfl
     have hr:=run_append_grow_src (P:=P) w t tx ty e i z ht hi hz (some ⟨g,0,none⟩) n cap xs (run_firstCells_some w.drew i.size n ⟨g,0,none⟩ n cap xs hown.1 (by simpa using holds)) x m news hs (by omega) (by omega) (growslice_fits (by omega) hbytes)
     have hgr:=grown cap (by omega) (Value.ownBlock (.slice (some ⟨g,0,none⟩) n cap))
     exact ⟨_,_,hr,hgr.1,hgr.2,by simp,Or.inr rfl⟩
end
end Go
