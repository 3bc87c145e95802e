/- The evaluator is sound: what it leaves to be shown of a function's body shows a contract of the function. Conditions: as typed. -/
import Derived.Test.YthkgakelgdncjaaDoorPh
import Derived.LoopN
namespace Go.Ep
open Go.RowKit
set_option linter.unusedVariables false
set_option linter.unusedSimpArgs false
section
variable {P : Program} {C : Table} {G : World → Prop} {base : Bs} {w0 : World}
theorem allLt_spec {b:Nat}:∀ {l:List (Nat×Blk)},allLt b l=true→∀ m,look l m≠none→m<b
 | [],_,m,h=>by simp [look] at h
 | (i,c)::r,e,m,h=>by
   simp only [allLt] at e
   split at e
   · rename_i hi
     have hi':i<b:=by simpa using hi
     rw [look_eq_beq] at h
     split at h
     · rename_i he;subst he;exact hi'
     · exact allLt_spec e m h
   · cases e
theorem purge_relL {ρ:Nat→Loc} {d:Nat} {l:L} {v:Value} (h:RelL ρ l v):RelL ρ (l.purge d) v:=by
 cases l<;>simp only [L.purge]<;>first | exact h | (split<;>first | exact fun hn=>absurd rfl hn | exact h)
theorem purge_seg {d:Nat} {l:L}:isSeg (l.purge d)=isSeg l:=by
 cases l<;>simp only [L.purge]<;>first | rfl | (split<;>rfl)
theorem purgeLs_len {d:Nat}:∀ {ls:List L},(purgeLs d ls).length=ls.length
 | []=>rfl
 | _::_=>by simp [purgeLs,purgeLs_len]
theorem purge_relLs {ρ:Nat→Loc} {d:Nat}:∀ {ls:List L} {vs:List Value},RelLs ρ ls vs→RelLs ρ (purgeLs d ls) vs
 | [],_,h=>h
 | l::ls,vs,⟨us,ws,e,h1,h2⟩=>by
   refine ⟨us,ws,e,?_,purge_relLs h2⟩
   cases hs:isSeg l with
   | true=>cases l<;>simp [isSeg] at hs;exact h1
   | false=>
     obtain ⟨v,h3,h4⟩:=(relI_one hs).1 h1
     exact (relI_one (by rw [purge_seg,hs])).2 ⟨v,h3,purge_relL h4⟩
theorem purge_relVs {ρ:Nat→Loc} {d:Nat}:∀ {ls:List (Bool×List L)} {vs:List Value},RelVs ρ ls vs→RelVs ρ (purgeVs d ls) vs
 | [],[],_=>trivial
 | (true,_)::_,_::_,⟨⟨cs,e,h1⟩,h2⟩=>⟨⟨cs,e,purge_relLs h1⟩,purge_relVs h2⟩
 | (false,[_])::_,_::_,⟨h1,h2⟩=>⟨purge_relL h1,purge_relVs h2⟩
 | [],_::_,h=>h.elim
 | (true,_)::_,[],h=>h.elim
 | (false,[])::_,[],h=>h.elim
 | (false,[])::_,_::_,h=>h.elim
 | (false,_::_::_)::_,[],h=>h.elim
 | (false,_::_::_)::_,_::_,h=>h.elim
 | (false,[_])::_,[],h=>h.elim
theorem purge_relA {ρ:Nat→Loc} {d:Nat} {v:AV} {u:Value} (h:RelA ρ v u):RelA ρ (v.purge d) u:=by
 cases v with
 | one l=>exact purge_relL h
 | agg ls=>obtain ⟨cs,e,h⟩:=h;exact ⟨cs,e,purge_relLs h⟩
 | tup vs=>obtain ⟨cs,e,h⟩:=h;exact ⟨cs,e,purge_relVs h⟩
theorem purge_namesL {d m:Nat} {l:L} (h:m∈(l.purge d).names):m∈l.names∧m≠d:=by
 cases l with
 | ptr i o=>
   simp only [L.purge] at h
   split at h
   · simp [L.names] at h
   · rename_i hne
     simp only [L.names,List.mem_singleton] at h ⊢
     subst h
     exact ⟨rfl,Nat.ne_of_beq_eq_false hne⟩
 | eptr i o n k=>
   simp only [L.purge] at h
   split at h
   · simp [L.names] at h
   · rename_i hne
     simp only [L.names,List.mem_singleton] at h ⊢
     subst h
     exact ⟨rfl,Nat.ne_of_beq_eq_false hne⟩
 | slc i o n c=>
   simp only [L.purge] at h
   split at h
   · simp [L.names] at h
   · rename_i hne
     simp only [L.names,List.mem_singleton] at h ⊢
     subst h
     exact ⟨rfl,Nat.ne_of_beq_eq_false hne⟩
 | rptr i o z k p=>
   simp only [L.purge] at h
   split at h
   · simp [L.names] at h
   · rename_i hne
     simp only [L.names,List.mem_singleton] at h ⊢
     subst h
     exact ⟨rfl,Nat.ne_of_beq_eq_false hne⟩
 | rsl i n=>
   simp only [L.purge] at h
   split at h
   · simp [L.names] at h
   · rename_i hne
     simp only [L.names,List.mem_singleton] at h ⊢
     subst h
     exact ⟨rfl,Nat.ne_of_beq_eq_false hne⟩
 | rsc i z k q n=>
   simp only [L.purge] at h
   split at h
   · simp [L.names] at h
   · rename_i hne
     simp only [L.names,List.mem_singleton] at h ⊢
     subst h
     exact ⟨rfl,Nat.ne_of_beq_eq_false hne⟩
 | imap i=>
   simp only [L.purge] at h
   split at h
   · simp [L.names] at h
   · rename_i hne
     simp only [L.names,List.mem_singleton] at h ⊢
     subst h
     exact ⟨rfl,Nat.ne_of_beq_eq_false hne⟩
 | clo f caps=>
   simp only [L.purge] at h
   split at h
   · simp [L.names] at h
   · rename_i hne
     have h':m∈capN caps:=by simpa [L.names] using h
     refine ⟨by simpa [L.names] using h',fun e=> ?_⟩
     subst e
     exact inCaps_spec hne h'
 | _=>simp [L.purge,L.names] at h
theorem purge_namesLs {d m:Nat}:∀ {ls:List L},m∈lnames (purgeLs d ls)→m∈lnames ls∧m≠d
 | [],h=>by simp [purgeLs,lnames] at h
 | l::ls,h=>by
   simp only [purgeLs,lnames,List.mem_append] at h ⊢
   rcases h with h | h
   · exact ⟨.inl (purge_namesL h).1,(purge_namesL h).2⟩
   · exact ⟨.inr (purge_namesLs h).1,(purge_namesLs h).2⟩
theorem purge_namesVs {d m:Nat}:∀ {ls:List (Bool×List L)},m∈vnames (purgeVs d ls)→m∈vnames ls∧m≠d
 | [],h=>by simp [purgeVs,vnames] at h
 | (b,l)::ls,h=>by
   simp only [purgeVs,vnames,List.mem_append] at h ⊢
   rcases h with h | h
   · exact ⟨.inl (purge_namesLs h).1,(purge_namesLs h).2⟩
   · exact ⟨.inr (purge_namesVs h).1,(purge_namesVs h).2⟩
theorem purge_namesA {d m:Nat} {v:AV} (h:m∈(v.purge d).names):m∈v.names∧m≠d:=by
 cases v with
 | one l=>exact purge_namesL h
 | agg ls=>exact purge_namesLs h
 | tup vs=>exact purge_namesVs h
theorem getT_map (d:Nat):∀ (t:List AV) (n:Nat),getT (t.map (AV.purge d)) n=(getT t n).purge d
 | [],_=>rfl
 | _::_,0=>rfl
 | _::t,n + 1=>getT_map d t n
theorem RelS.purge {ρ:Nat→Loc} {s:AS} {a:Act} {w:World} (R:RelS base w0 ρ s a w) (d:Nat) (hnd:base.nm≤d) {h:Nat→Option Blk} (hh:∀ i,h i=if i=d then none else (s.h i).map (Blk.purge d)) :
 RelS base w0 ρ ⟨s.t.map (AV.purge d),h⟩ a w:=by
 have hback:∀ i,h i≠none→s.h i≠none:=fun i hi=>by
  rw [hh] at hi
  split at hi
  · exact absurd rfl hi
  · intro e;rw [e] at hi;exact hi rfl
 have hfind:∀ i c,h i=some c→∃ c0,s.h i=some c0∧c0.own=c.own:=fun i c hi=>by
  rw [hh] at hi
  split at hi
  · cases hi
  · obtain ⟨c0,h1,rfl⟩:=Option.map_eq_some_iff.1 hi
    exact ⟨c0,h1,by cases c0<;>rfl⟩
 have hto:∀ i,s.h i≠none→i≠d→h i≠none:=fun i hi hd=>by
  rw [hh,if_neg hd]
  cases hs:s.h i with
  | none=>exact absurd hs hi
  | some b=>simp
 refine ⟨R.defers,by simpa using R.size,⟨fun n=> ?_,fun i b hb=> ?_,fun n m hm=> ?_,fun i b hb m hm=> ?_⟩,fun i c hi=>by obtain ⟨c0,h1,h2⟩:=hfind i c hi;rw [← h2];exact R.low i c0 h1,fun i j c d hi hj ho e=>by obtain ⟨c0,h1,h2⟩:=hfind i c hi;obtain ⟨d0,h3,_⟩:=hfind j d hj;exact R.inj i j c0 d0 h1 h3 (by rw [h2];exact ho) e,R.below,R.base,
  fun m hm=>⟨(R.frame m hm).1,hto m (R.frame m hm).2.1 (fun e=>by have:=(R.frame m hm).1;omega),(R.frame m hm).2.2⟩,R.far.to (Nat.le_refl _) (fun _ _ _=>rfl) fun i c h1 h2=>by obtain ⟨c0,h3,h4⟩:=hfind i c h1;exact .inr ⟨i,c0,h3,h4.trans h2,rfl⟩⟩
 · rw [getT_map];exact purge_relA (R.ctx.tmps n)
 · have hb:h i=some b:=hb
   rw [hh] at hb
   split at hb
   · cases hb
   · obtain ⟨b0,hb0,rfl⟩:=Option.map_eq_some_iff.1 hb
     have:=R.ctx.heap i b0 hb0
     cases b0 with
     | cells T ls=>obtain ⟨cs,e,h0,h1⟩:=this;exact ⟨cs,e,h0,purge_relLs h1⟩
     | ro T ls=>obtain ⟨cs,fr,e,us,ws,h0,h1⟩:=this;exact ⟨cs,fr,e,us,ws,h0,purge_relLs h1⟩
     | row T z n f=>exact this
     | imap es=>exact this
     | romap es=>exact this
     | vec T ls=>obtain ⟨cs,e,h0,h1,h2,h3,h4⟩:=this;exact ⟨cs,e,h0,h1,by rw [purgeLs_len];exact h2,h3,by rw [purgeLs_len];exact purge_relLs h4⟩
 · rw [getT_map] at hm
   obtain ⟨h1,h2⟩:=purge_namesA hm
   exact hto m (R.ctx.names n m h1) h2
 · have hb:h i=some b:=hb
   rw [hh] at hb
   split at hb
   · cases hb
   · obtain ⟨b0,hb0,rfl⟩:=Option.map_eq_some_iff.1 hb
     cases b0 with
     | cells T ls=>
       obtain ⟨h1,h2⟩:=purge_namesLs (show m∈lnames (purgeLs d ls) from hm)
       exact hto m (R.ctx.namesH i _ hb0 m h1) h2
     | ro T ls=>
       obtain ⟨h1,h2⟩:=purge_namesLs (show m∈lnames (purgeLs d ls) from hm)
       exact hto m (R.ctx.namesH i _ hb0 m h1) h2
     | row T z n f=>simp [Blk.purge,Blk.names] at hm
     | imap es=>simp [Blk.purge,Blk.names] at hm
     | romap es=>simp [Blk.purge,Blk.names] at hm
     | vec T ls=>
       obtain ⟨h1,h2⟩:=purge_namesLs (show m∈lnames (purgeLs d ls) from hm)
       exact hto m (R.ctx.namesH i _ hb0 m h1) h2
theorem SegV.join {z n m:Nat} {f g:Nat→List PL} {us vs:List Value} (h:SegV z n f us) (h':SegV z m g vs) (hf:∀ j,(f j).length=z) (hg:∀ j,(g j).length=z):SegV z (n + m) (joinF n f g) (us++vs):=by
 refine ⟨by simp [h.1,h'.1,Nat.mul_add],fun k hk=>⟨by rw [joinF,mergeP_len,hf],fun j hj=> ?_⟩⟩
 rw [joinF,mergeP_get _ _ _ _ _ (by rw [hf,hg];omega)]
 by_cases hkn:k<n
 · have hb:=mul_lt_of (z:=z) hkn
   rw [if_neg fun e=>by omega,List.getElem?_append_left (by rw [h.1];omega)]
   exact (h.2 k hkn).2 j hj
 · have e1:z*k + j - us.length=z*(k - n) + j:=by
    have:z*k=z*n + z*(k - n):=by rw [← Nat.mul_add];congr 1;omega
    rw [h.1];omega
   have hle:us.length≤z*k + j:=by
    have:z*n≤z*k:=Nat.mul_le_mul_left z (by omega)
    rw [h.1];omega
   rw [if_pos ⟨by omega,by omega,by rw [hg];omega⟩,List.getElem?_append_right hle,e1,Nat.sub_zero]
   exact (h'.2 (k - n) (by omega)).2 j hj
theorem SegV.joinI {z n m:Nat} {f g:Nat→List PL} {us vs:List Value} (h:SegV z n f us) (h':SegV z m g vs):SegV z (n + m) (Go.Ep.joinI n f g) (us++vs):=by
 refine ⟨by simp [h.1,h'.1,Nat.mul_add],fun k hk=> ?_⟩
 unfold Go.Ep.joinI
 by_cases hkn:k<n
 · have e:Nat.blt k n=true:=by simpa using hkn
   rw [e]
   dsimp only
   obtain ⟨h1,h2⟩:=h.2 k hkn
   refine ⟨h1,fun j hj=> ?_⟩
   have hb:=mul_lt_of (z:=z) hkn
   rw [List.getElem?_append_left (by rw [h.1];omega)]
   exact h2 j hj
 · have e:Nat.blt k n=false:=by
    cases hx:Nat.blt k n with
    | false=>rfl
    | true=>exact absurd (by simpa using hx) hkn
   rw [e]
   dsimp only
   obtain ⟨h1,h2⟩:=h'.2 (k - n) (by omega)
   refine ⟨h1,fun j hj=> ?_⟩
   have e1:z*k + j - us.length=z*(k - n) + j:=by
    have:z*k=z*n + z*(k - n):=by rw [← Nat.mul_add];congr 1;omega
    rw [h.1];omega
   have hle:us.length≤z*k + j:=by
    have:z*n≤z*k:=Nat.mul_le_mul_left z (by omega)
    rw [h.1];omega
   rw [List.getElem?_append_right hle,e1]
   exact h2 j hj
theorem app_some {ρ:Nat→Loc} {s:AS} {a:Act} {w:World} (R:RelS base w0 ρ s a w) {T e:TypeId} {inf:TypeInfo} {zv:Value} {ty:TypeId} (hT:P.underlying T=some (.slice e)) (hi:P.info? e=some inf) (hz:inf.zero=some zv)
 (hzs:zv.cells.size=inf.size) (h0:0<inf.size) (hby:inf.bytes≤4096) {i n m:Nat} {f g:Nat→List PL} (hsm:n + m<65536) (hb:s.h i=some (.row e inf.size n f)) (hnm:base.nm≤i)
 {F:Nat→List PL} (hF:∀ us vs,SegV inf.size n f us→SegV inf.size m g vs→SegV inf.size (n + m) F (us++vs)) {tx:TypeId} {vx:Value} {news:List Value} (hs:_root_.Go.Src P inf.size tx vx m news w)
 (hseg:SegV inf.size m g news) {h':Nat→Option Blk} (hh:∀ j,h' j=if j=i then none else (s.h j).map (Blk.purge i)) :
 ∃ v' w' ρ',(Builtin.append_ #[T,tx] ty #[.slice (some ⟨(ρ i).b,(ρ i).o,none⟩) n (ρ i).c,vx]).run P w= .ok v' w' ∧
   RelS base w0 ρ' ⟨s.t.map (AV.purge i),upd h' i (.row e inf.size (n + m) F)⟩ a w'∧RelL ρ' (.rsl i (n + m)) v':=by
 obtain ⟨cs,hw,ho,hcs,hnc,hcm,hsf⟩:=R.ctx.heap i _ hb
 have hlow:=(R.low i _ hb).1 rfl
 rw [ho]
 have hnz:n*inf.size=inf.size*n:=Nat.mul_comm _ _
 have hle:inf.size*n≤inf.size*(ρ i).c:=Nat.mul_le_mul_left _ hnc
 have hown:w.ownsRow base.b e inf.size (.slice (some ⟨(ρ i).b,0,none⟩) n (ρ i).c) n (cs.toList.take (n*inf.size)):=
  ⟨by simp;omega,.inr ⟨(ρ i).b,(ρ i).c,cs,rfl,hlow,hw,hnc,hcm,by rw [hcs,Nat.mul_comm],rfl⟩⟩
 have hbytes:(n + m)*inf.bytes≤140737488355328:=Nat.le_trans (Nat.mul_le_mul (Nat.le_of_lt hsm) hby) (by omega)
 obtain ⟨v',w',hrun,hown',hgr,hnil,hat⟩:=run_append_own_src (P:=P) w base.b T tx ty e inf zv inf.size inf.bytes hT hi hz rfl rfl hzs h0 _ n _ hown vx m news hs (by simp only [maxLen];omega) hbytes R.base
 rcases hown'.2 with ⟨e1,e2⟩ | ⟨g',cap',cur',hv',hg',hw',hnc',hcm',hcs',htake⟩
 · have:=(hnil.1 e1).1;cases this
 have hP:=R.purge i hnm hh
 have hd:h' i=none:=by rw [hh,if_pos rfl]
 have hback:∀ j c,h' j=some c→∃ c0,s.h j=some c0∧c0.own=c.own∧j≠i:=fun j c hj=>by
  rw [hh] at hj
  split at hj
  · cases hj
  · rename_i hji
    obtain ⟨c0,h1,rfl⟩:=Option.map_eq_some_iff.1 hj
    exact ⟨c0,h1,by cases c0<;>rfl,hji⟩
 have hne:∀ j c,h' j=some c→(ρ j).b≠(ρ i).b:=fun j c hj e=>by
  obtain ⟨c0,h1,_,hji⟩:=hback j c hj
  exact hji (R.inj i j _ _ hb h1 rfl e.symm).symm
 have hlt:∀ j c,h' j=some c→(ρ j).b<w.heap.size:=fun j c hj=>by
  obtain ⟨c0,h1,_,_⟩:=hback j c hj
  exact R.lt (by rw [h1];simp)
 have hob:v'.ownBlock=some g':=by rw [hv'];rfl
 refine ⟨v',w',_,hrun,hP.adopt (q:=⟨g',0,cap'⟩) hd hnm (fun j c hj=>⟨hgr.block _ (hlt j c hj) (fun e=>hne j c hj (by simpa [Value.ownBlock] using e)),?_⟩) ?_ (Nat.le_trans R.base hgr.size) ?_ rfl hg' rfl hgr.size (fun k h1 h2=>hgr.block k (Nat.lt_of_lt_of_le h1 R.far.grown) (fun e=> ?_)) (fun h1 h2=> ?_),?_⟩
 · rcases hat with e | e
   · rw [hob] at e
     have:g'=(ρ i).b:=by simpa [Value.ownBlock] using e
     rw [this];exact hne j c hj
   · rw [hob] at e
     have:g'=w.heap.size:=by simpa using e
     have h3:=hlt j c hj
     show (ρ j).b≠g'
     omega
 · refine R.below.trans ⟨hgr.os,hgr.tape,hgr.output,hgr.size,fun k hk=>hgr.block k (by have:=R.base;omega) (fun e=> ?_)⟩
   have:k=(ρ i).b:=by simpa [Value.ownBlock] using e
   omega
 · refine ⟨cur',hw',rfl,by rw [hcs',Nat.mul_comm],hnc',hcm',?_⟩
   rw [Nat.mul_comm,htake,hnz]
   exact hF _ _ hsf hseg
 · have e':(ρ i).b=k:=by simpa [Value.ownBlock] using e.symm
   rw [← e'] at h1 h2
   exact R.far.apart i _ hb rfl h1 h2
 · rcases hat with e | e
   · rw [hob] at e
     have:g'=(ρ i).b:=by simpa [Value.ownBlock] using e
     rw [this] at h1 h2
     exact R.far.apart i _ hb rfl h1 h2
   · rw [hob] at e
     have:g'=w.heap.size:=by simpa using e
     have h3:=R.far.grown
     have h1:g'<base.w1.heap.size:=h1
     omega
 · intro _
   rw [hv'];simp [gL]
theorem app_none {ρ:Nat→Loc} {s:AS} {a:Act} {w:World} (R:RelS base w0 ρ s a w) {T e:TypeId} {inf:TypeInfo} {zv:Value} {ty:TypeId} (hT:P.underlying T=some (.slice e)) (hi:P.info? e=some inf) (hz:inf.zero=some zv)
 (hzs:zv.cells.size=inf.size) (h0:0<inf.size) (hby:inf.bytes≤4096) {i m:Nat} {g:Nat→List PL} (hsm:m<65536) (hnm:base.nm≤i)
 {tx:TypeId} {vx:Value} {news:List Value} (hs:_root_.Go.Src P inf.size tx vx m news w)
 (hseg:SegV inf.size m g news) {h':Nat→Option Blk} (hh:∀ j,h' j=if j=i then none else (s.h j).map (Blk.purge i)) (hm:m≠0) :
 ∃ v' w' ρ',(Builtin.append_ #[T,tx] ty #[.slice none 0 0,vx]).run P w= .ok v' w' ∧
   RelS base w0 ρ' ⟨s.t.map (AV.purge i),upd h' i (.row e inf.size m g)⟩ a w'∧RelL ρ' (.rsl i m) v':=by
 have hown:w.ownsRow base.b e inf.size (.slice none 0 0) 0 []:=⟨by simp,.inl ⟨rfl,rfl⟩⟩
 have hbytes:(0 + m)*inf.bytes≤140737488355328:=by
  rw [Nat.zero_add];exact Nat.le_trans (Nat.mul_le_mul (Nat.le_of_lt hsm) hby) (by omega)
 obtain ⟨v',w',hrun,hown',hgr,hnil,hat⟩:=run_append_own_src (P:=P) w base.b T tx ty e inf zv inf.size inf.bytes hT hi hz rfl rfl hzs h0 _ 0 _ hown vx m news hs (by simp only [maxLen];omega) hbytes R.base
 rcases hown'.2 with ⟨e1,e2⟩ | ⟨g',cap',cur',hv',hg',hw',hnc',hcm',hcs',htake⟩
 · omega
 rw [Nat.zero_add] at hv' hnc' htake
 have hP:=R.purge i hnm hh
 have hd:h' i=none:=by rw [hh,if_pos rfl]
 have hlt:∀ j c,h' j=some c→(ρ j).b<w.heap.size:=fun j c hj=>hP.lt (by show h' j≠none;rw [hj];simp)
 have hob:v'.ownBlock=some g':=by rw [hv'];rfl
 have hgs:g'=w.heap.size:=by
  rcases hat with e | e
  · rw [hob] at e;simp [Value.ownBlock] at e
  · rw [hob] at e;simpa using e
 refine ⟨v',w',_,hrun,hP.adopt (q:=⟨g',0,cap'⟩) hd hnm (fun j c hj=>⟨hgr.block _ (hlt j c hj) (by simp [Value.ownBlock]),?_⟩) ?_ (Nat.le_trans R.base hgr.size) ?_ rfl hg' rfl hgr.size (fun k h1 _=>hgr.block k (Nat.lt_of_lt_of_le h1 R.far.grown) (by simp [Value.ownBlock])) (fun h1 _=> ?_),?_⟩
 · have h3:=hlt j c hj
   show (ρ j).b≠g'
   omega
 · exact R.below.trans ⟨hgr.os,hgr.tape,hgr.output,hgr.size,fun k hk=>hgr.block k (by have:=R.base;omega) (by simp [Value.ownBlock])⟩
 · refine ⟨cur',hw',rfl,by rw [hcs',Nat.mul_comm],hnc',hcm',?_⟩
   rw [Nat.mul_comm,htake,List.nil_append]
   exact hseg
 · have h3:=R.far.grown
   have h1:g'<base.w1.heap.size:=h1
   omega
 · intro _
   rw [hv'];simp [gL]
theorem srcK_eq {x:Src} {h:List (Nat×Blk)} {k:Cond→(Nat→List PL)→Prop} {w:World} {z m:Nat} {tx:TypeId} {vx:Value} {ρ:Nat→Loc} (hx:SrcOK P ρ (look h) w z m tx vx x) (hk:srcK x h k) :
 ∃ c g,k c g∧(c.holds→(∀ i,i<m→(g i).length=z)→∃ news,_root_.Go.Src P z tx vx m news w∧SegV z m g news):=by
 cases x with
 | here g=>exact ⟨.t,g,hk,fun _ _=>hx⟩
 | mem j f=>
   simp only [srcK] at hk
   split at hk
   · rename_i b hb
     split at hk
     · rename_i c g hg
       exact ⟨c,g,hk,fun hc hl=>hx.2 b hb c g hg hc hl⟩
     · cases hk
   · cases hk
 | cell j off f=>
   simp only [srcK] at hk
   split at hk
   · rename_i b hb
     split at hk
     · rename_i c g hg
       exact ⟨c,g,hk,fun hc hl=>hx.1.2 b hb c g hg hc hl⟩
     · cases hk
   · cases hk
theorem vecOf_spec {x:Src} {h:List (Nat×Blk)} {w:World} {z m:Nat} {tx:TypeId} {vx:Value} {l:L} {ρ:Nat→Loc} (hx:SrcOK P ρ (look h) w z m tx vx x) (hv:vecOf x h z m=some l) :
 z=1∧m=1∧l.ok=true∧(∃ j T,look h j=some (.cells T [l]))∧∃ v,_root_.Go.Src P z tx vx m [v] w∧RelL ρ l v:=by
 unfold vecOf at hv
 split at hv
 · rename_i j off f
   split at hv
   · rename_i h1 h2 h3
     have h1:off=0:=by simpa using h1
     have h2:z=1:=by simpa using h2
     have h3:m=1:=by simpa using h3
     split at hv
     · rename_i T l0 hb
       split at hv
       · rename_i hok _
         obtain rfl:=Option.some.inj hv
         exact ⟨h2,h3,hok,⟨j,T,hb⟩,hx.2 T l0 hb hok h1 h2 h3⟩
       · cases hv
     · cases hv
   · cases hv
 · cases hv
theorem lnames_appL:∀ {xs ys:List L} {m:Nat},m∈lnames (appL xs ys)→m∈lnames xs∨m∈lnames ys
 | [],ys,m,h=> .inr h
 | x::xs,ys,m,h=>by
   simp only [appL,lnames,List.mem_append] at h ⊢
   rcases h with h | h
   · exact .inl (.inl h)
   · rcases lnames_appL h with h | h
     · exact .inl (.inr h)
     · exact .inr h
theorem appL_len:∀ (xs ys:List L),(appL xs ys).length=xs.length + ys.length
 | [],ys=>by simp [appL]
 | x::xs,ys=>by simp [appL,appL_len xs ys];omega
theorem inNs_not {i:Nat}:∀ {l:List Nat},inNs i l=false→i ∉ l
 | [],_=>by simp
 | j::r,h=>by
   simp only [inNs] at h
   split at h
   · cases h
   · rename_i he
     have hne:i≠j:=fun e=>by subst e;simp at he
     simp [hne,inNs_not h]
theorem app_someV {ρ:Nat→Loc} {s:AS} {a:Act} {w:World} (R:RelS base w0 ρ s a w) {T e:TypeId} {inf:TypeInfo} {zv:Value} {ty:TypeId} (hT:P.underlying T=some (.slice e)) (hi:P.info? e=some inf) (hz:inf.zero=some zv)
 (hzs:zv.cells.size=inf.size) (h0:0<inf.size) (hby:inf.bytes≤4096) {i n:Nat} {ls:List L} {l:L} {v0:Value} (hsm:n + 1<65536) (hb:s.h i=some (.vec e ls)) (hln:ls.length=n) (hnm:base.nm≤i)
 (hs1:inf.size=1) (hrl:RelL ρ l v0) (hok:l.ok=true) (hnl:∀ m∈l.names,s.h m≠none) (hni:i ∉ l.names) (hni2:i ∉ lnames ls) {tx:TypeId} {vx:Value} {news:List Value} (hs:_root_.Go.Src P inf.size tx vx 1 news w) (hnw:news=[v0])
 {h':Nat→Option Blk} (hh:∀ j,h' j=if j=i then none else (s.h j).map (Blk.purge i)) :
 ∃ v' w' ρ',(Builtin.append_ #[T,tx] ty #[.slice (some ⟨(ρ i).b,(ρ i).o,none⟩) n (ρ i).c,vx]).run P w= .ok v' w' ∧
   RelS base w0 ρ' ⟨s.t.map (AV.purge i),upd h' i (.vec e (appL ls [l]))⟩ a w'∧RelL ρ' (.rsl i (n + 1)) v':=by
 obtain ⟨cs,hw,ho,hcs0,hnc0,hcm,hsf⟩:=R.ctx.heap i _ hb
 have hnc:n≤(ρ i).c:=by rw [← hln];exact hnc0
 have hcs:cs.size=inf.size*(ρ i).c:=by rw [hcs0,hs1,Nat.one_mul]
 have hlow:=(R.low i _ hb).1 rfl
 rw [ho]
 have hnz:n*inf.size=inf.size*n:=Nat.mul_comm _ _
 have hle:inf.size*n≤inf.size*(ρ i).c:=Nat.mul_le_mul_left _ hnc
 have hown:w.ownsRow base.b e inf.size (.slice (some ⟨(ρ i).b,0,none⟩) n (ρ i).c) n (cs.toList.take (n*inf.size)):=
  ⟨by simp;omega,.inr ⟨(ρ i).b,(ρ i).c,cs,rfl,hlow,hw,hnc,hcm,by rw [hcs,Nat.mul_comm],rfl⟩⟩
 have hbytes:(n + 1)*inf.bytes≤140737488355328:=Nat.le_trans (Nat.mul_le_mul (Nat.le_of_lt hsm) hby) (by omega)
 obtain ⟨v',w',hrun,hown',hgr,hnil,hat⟩:=run_append_own_src (P:=P) w base.b T tx ty e inf zv inf.size inf.bytes hT hi hz rfl rfl hzs h0 _ n _ hown vx 1 news hs (by simp only [maxLen];omega) hbytes R.base
 rcases hown'.2 with ⟨e1,e2⟩ | ⟨g',cap',cur',hv',hg',hw',hnc',hcm',hcs',htake⟩
 · have:=(hnil.1 e1).1;cases this
 have hP:=R.purge i hnm hh
 have hd:h' i=none:=by rw [hh,if_pos rfl]
 have hback:∀ j c,h' j=some c→∃ c0,s.h j=some c0∧c0.own=c.own∧j≠i:=fun j c hj=>by
  rw [hh] at hj
  split at hj
  · cases hj
  · rename_i hji
    obtain ⟨c0,h1,rfl⟩:=Option.map_eq_some_iff.1 hj
    exact ⟨c0,h1,by cases c0<;>rfl,hji⟩
 have hne:∀ j c,h' j=some c→(ρ j).b≠(ρ i).b:=fun j c hj e=>by
  obtain ⟨c0,h1,_,hji⟩:=hback j c hj
  exact hji (R.inj i j _ _ hb h1 rfl e.symm).symm
 have hlt:∀ j c,h' j=some c→(ρ j).b<w.heap.size:=fun j c hj=>by
  obtain ⟨c0,h1,_,_⟩:=hback j c hj
  exact R.lt (by rw [h1];simp)
 have hob:v'.ownBlock=some g':=by rw [hv'];rfl
 refine ⟨v',w',_,hrun,hP.adoptN (q:=⟨g',0,cap'⟩) hd hnm (fun j c hj=>⟨hgr.block _ (hlt j c hj) (fun e=>hne j c hj (by simpa [Value.ownBlock] using e)),?_⟩) ?_ (Nat.le_trans R.base hgr.size) ?_ rfl hg' (fun m hm=>by
  have hm:m∈lnames ls∨m∈lnames [l]:=lnames_appL hm
  have hsn:s.h m≠none:=by
   rcases hm with hm | hm
   · exact R.ctx.namesH i _ hb m hm
   · exact hnl m (by simpa [lnames] using hm)
  have hne:m≠i:=fun e=>by
   subst e
   rcases hm with hm | hm
   · exact hni2 hm
   · exact hni (by simpa [lnames] using hm)
  show h' m≠none
  rw [hh,if_neg hne]
  cases hx:s.h m with
  | none=>exact absurd hx hsn
  | some c=>simp) hgr.size (fun k h1 h2=>hgr.block k (Nat.lt_of_lt_of_le h1 R.far.grown) (fun e=> ?_)) (fun h1 h2=> ?_),?_⟩
 · rcases hat with e | e
   · rw [hob] at e
     have:g'=(ρ i).b:=by simpa [Value.ownBlock] using e
     rw [this];exact hne j c hj
   · rw [hob] at e
     have:g'=w.heap.size:=by simpa using e
     have h3:=hlt j c hj
     show (ρ j).b≠g'
     omega
 · refine R.below.trans ⟨hgr.os,hgr.tape,hgr.output,hgr.size,fun k hk=>hgr.block k (by have:=R.base;omega) (fun e=> ?_)⟩
   have:k=(ρ i).b:=by simpa [Value.ownBlock] using e
   omega
 · refine ⟨cur',hw',rfl,by rw [hcs',hs1,Nat.mul_one],by rw [appL_len,hln];exact hnc',hcm',?_⟩
   rw [hs1,Nat.mul_one,Nat.mul_one] at htake
   rw [appL_len,hln]
   show RelLs ρ (appL ls [l]) (cur'.toList.take (n + 1))
   rw [htake,hnw]
   exact relLs_app (by rw [hln] at hsf;exact hsf) ((relLs_cons (ok_seg hok)).2 ⟨v0,[],rfl,hrl,rfl⟩)
 · have e':(ρ i).b=k:=by simpa [Value.ownBlock] using e.symm
   rw [← e'] at h1 h2
   exact R.far.apart i _ hb rfl h1 h2
 · rcases hat with e | e
   · rw [hob] at e
     have:g'=(ρ i).b:=by simpa [Value.ownBlock] using e
     rw [this] at h1 h2
     exact R.far.apart i _ hb rfl h1 h2
   · rw [hob] at e
     have:g'=w.heap.size:=by simpa using e
     have h3:=R.far.grown
     have h1:g'<base.w1.heap.size:=h1
     omega
 · intro _
   rw [hv'];simp [gL]
theorem app_noneV {ρ:Nat→Loc} {s:AS} {a:Act} {w:World} (R:RelS base w0 ρ s a w) {T e:TypeId} {inf:TypeInfo} {zv:Value} {ty:TypeId} (hT:P.underlying T=some (.slice e)) (hi:P.info? e=some inf) (hz:inf.zero=some zv)
 (hzs:zv.cells.size=inf.size) (h0:0<inf.size) (hby:inf.bytes≤4096) {i:Nat} {l:L} {v0:Value} (hs1:inf.size=1) (hrl:RelL ρ l v0) (hok:l.ok=true) (hnl:∀ m∈l.names,s.h m≠none) (hni:i ∉ l.names) (hnm:base.nm≤i)
 {tx:TypeId} {vx:Value} {news:List Value} (hs:_root_.Go.Src P inf.size tx vx 1 news w) (hnw:news=[v0])
 {h':Nat→Option Blk} (hh:∀ j,h' j=if j=i then none else (s.h j).map (Blk.purge i)) :
 ∃ v' w' ρ',(Builtin.append_ #[T,tx] ty #[.slice none 0 0,vx]).run P w= .ok v' w' ∧
   RelS base w0 ρ' ⟨s.t.map (AV.purge i),upd h' i (.vec e [l])⟩ a w'∧RelL ρ' (.rsl i 1) v':=by
 have hown:w.ownsRow base.b e inf.size (.slice none 0 0) 0 []:=⟨by simp,.inl ⟨rfl,rfl⟩⟩
 have hbytes:(0 + 1)*inf.bytes≤140737488355328:=by omega
 obtain ⟨v',w',hrun,hown',hgr,hnil,hat⟩:=run_append_own_src (P:=P) w base.b T tx ty e inf zv inf.size inf.bytes hT hi hz rfl rfl hzs h0 _ 0 _ hown vx 1 news hs (by simp only [maxLen];omega) hbytes R.base
 rcases hown'.2 with ⟨e1,e2⟩ | ⟨g',cap',cur',hv',hg',hw',hnc',hcm',hcs',htake⟩
 · omega
 rw [Nat.zero_add] at hv' hnc' htake
 have hP:=R.purge i hnm hh
 have hd:h' i=none:=by rw [hh,if_pos rfl]
 have hlt:∀ j c,h' j=some c→(ρ j).b<w.heap.size:=fun j c hj=>hP.lt (by show h' j≠none;rw [hj];simp)
 have hob:v'.ownBlock=some g':=by rw [hv'];rfl
 have hgs:g'=w.heap.size:=by
  rcases hat with e | e
  · rw [hob] at e;simp [Value.ownBlock] at e
  · rw [hob] at e;simpa using e
 refine ⟨v',w',_,hrun,hP.adoptN (q:=⟨g',0,cap'⟩) hd hnm (fun j c hj=>⟨hgr.block _ (hlt j c hj) (by simp [Value.ownBlock]),?_⟩) ?_ (Nat.le_trans R.base hgr.size) ?_ rfl hg' (fun m hm=>by
  have hm:m∈l.names:=by simpa [Blk.names,lnames] using hm
  have hne:m≠i:=fun e=>hni (e ▸ hm)
  show h' m≠none
  rw [hh,if_neg hne]
  cases hx:s.h m with
  | none=>exact absurd hx (hnl m hm)
  | some c=>simp) hgr.size (fun k h1 _=>hgr.block k (Nat.lt_of_lt_of_le h1 R.far.grown) (by simp [Value.ownBlock])) (fun h1 _=> ?_),?_⟩
 · have h3:=hlt j c hj
   show (ρ j).b≠g'
   omega
 · exact R.below.trans ⟨hgr.os,hgr.tape,hgr.output,hgr.size,fun k hk=>hgr.block k (by have:=R.base;omega) (by simp [Value.ownBlock])⟩
 · refine ⟨cur',hw',rfl,by rw [hcs',hs1,Nat.mul_one],hnc',hcm',?_⟩
   rw [hs1,Nat.mul_one] at htake
   show RelLs ρ [l] (cur'.toList.take 1)
   rw [htake,List.nil_append,hnw]
   exact (relLs_cons (ok_seg hok)).2 ⟨v0,[],rfl,hrl,rfl⟩
 · have h3:=R.far.grown
   have h1:g'<base.w1.heap.size:=h1
   omega
 · intro _
   rw [hv'];simp [gL]
theorem KnOK.purge {kw:List (Nat×Bool)} {t:List AV} (h:KnOK kw t) (d:Nat):KnOK kw (t.map (AV.purge d)):=by
 intro n b hn p hp
 rw [getT_map] at hp
 refine h n b hn p ?_
 cases hv:getT t n with
 | one l=>
   rw [hv] at hp
   cases l<;>simp only [AV.purge,L.purge] at hp<;>first | exact hp | (split at hp<;>simp at hp)
 | agg ls=>rw [hv] at hp;simp [AV.purge] at hp
 | tup vs=>rw [hv] at hp;simp [AV.purge] at hp
theorem inNs_no {i:Nat}:∀ {l:List Nat},inNs i l=false→i ∉ l
 | [],_=>by simp
 | j::r,h=>by
   simp only [inNs] at h
   split at h
   · cases h
   · rename_i hne
     have:=Nat.ne_of_beq_eq_false hne
     simp only [List.mem_cons,not_or]
     exact ⟨this,inNs_no h⟩
theorem blt_no {a b:Nat} (h:Nat.blt a b=false):b≤a:=by
 refine Nat.le_of_not_lt fun hlt=> ?_
 have:=Nat.ble_eq_true_of_le hlt
 simp [Nat.blt,this] at h
theorem newNs_ge {b:Nat}:∀ {l:List Nat},∀ i∈newNs b l,b≤i
 | [],i,h=>by simp [newNs] at h
 | j::r,i,h=>by
   simp only [newNs] at h
   split at h
   · exact newNs_ge i h
   · rename_i hj
     split at h
     · exact newNs_ge i h
     · rcases List.mem_cons.1 h with rfl | h
       · exact blt_no hj
       · exact newNs_ge i h
theorem allInN_spec {h:List (Nat×Blk)}:∀ {l:List Nat},allInN h l=true→∀ m∈l,look h m≠none
 | [],_,m,hm=>by simp at hm
 | i::l,e,m,hm=>by
   simp only [allInN] at e
   split at e
   · rename_i b hi
     rcases List.mem_cons.1 hm with rfl | hm
     · rw [hi];simp
     · exact allInN_spec e m hm
   · cases e
theorem renHK_eq {α:Sort _} (i j:Nat) (hij:i≠j):∀ (l:List (Nat×Blk)) (k:List (Nat×Blk)→α),look l j=none→∃ l',renHK i j l k=k l'∧∀ m,look l' m=if m=j then (look l i).map (Blk.ren i j) else if m=i then none else (look l m).map (Blk.ren i j)
 | [],k,_=>⟨[],rfl,fun m=>by simp [look]⟩
 | (x,b)::r,k,hj=>by
   have e:renHK i j ((x,b)::r) k=(match Nat.beq x i with
    | true=>forceB (b.ren i j) fun b=>renHK i j r fun r=>k ((j,b)::r)
    | false=>forceB (b.ren i j) fun b=>renHK i j r fun r=>k ((x,b)::r)):=rfl
   rw [look_eq_beq] at hj
   split at hj
   · cases hj
   rename_i hxj
   rw [e]
   split
   · rename_i hx
     have hx':x=i:=by simpa using hx
     subst hx'
     rw [forceB_eq]
     obtain ⟨l',h1,h2⟩:=renHK_eq x j hij r (fun r=>k ((j,b.ren x j)::r)) hj
     refine ⟨_,h1,fun m=> ?_⟩
     rw [look_eq_beq,look_eq_beq,look_eq_beq,h2]
     by_cases hm:m=j
     · subst hm;simp
     · by_cases hm2:m=x
       · subst hm2;simp [hm,Ne.symm hm]
       · simp [hm,hm2,Ne.symm hm,Ne.symm hm2]
   · rename_i hx
     have hx':=Nat.ne_of_beq_eq_false hx
     rw [forceB_eq]
     obtain ⟨l',h1,h2⟩:=renHK_eq i j hij r (fun r=>k ((x,b.ren i j)::r)) hj
     refine ⟨_,h1,fun m=> ?_⟩
     rw [look_eq_beq,look_eq_beq,look_eq_beq,h2]
     by_cases hm:m=j
     · subst hm;simp [hxj,hx']
     · by_cases hm2:m=i
       · subst hm2;simp [hm,hx']
       · by_cases hx3:x=m
         · subst hx3;simp [hm,hm2]
         · simp [hm,hm2,hx3]
theorem ren_relL {ρ:Nat→Loc} {i j:Nat} {l:L} {v:Value} (h:RelL ρ l v) (hj:j ∉ l.names):RelL (fun m=>if m=j then ρ i else ρ m) (l.ren i j) v:=by
 have keep:RelL (fun m=>if m=j then ρ i else ρ m) l v:=relL_agree h fun m hm=>if_neg (fun e:m=j=>hj (by rw [← e];exact hm))
 cases l with
 | ptr x o=>
   simp only [L.ren]
   split
   · rename_i hx
     have:x=i:=by simpa using hx
     subst this
     intro _;rw [h (by simp)];simp [gL]
   · exact keep
 | slc x o n c=>
   simp only [L.ren]
   split
   · rename_i hx
     have:x=i:=by simpa using hx
     subst this
     intro _;rw [h (by simp)];simp [gL]
   · exact keep
 | rsl x n=>
   simp only [L.ren]
   split
   · rename_i hx
     have:x=i:=by simpa using hx
     subst this
     intro _;rw [h (by simp)];simp [gL]
   · exact keep
 | rsc x z k q n=>
   simp only [L.ren]
   split
   · rename_i hx
     have:x=i:=by simpa using hx
     subst this
     intro _;rw [h (by simp)];simp [gL]
   · exact keep
 | imap x=>
   simp only [L.ren]
   split
   · rename_i hx
     have:x=i:=by simpa using hx
     subst this
     intro _;rw [h (by simp)];simp [gL]
   · exact keep
 | eptr x o n k=>
   simp only [L.ren]
   split
   · rename_i hx
     have:x=i:=by simpa using hx
     subst this
     intro _;rw [h (by simp)];simp [gL]
   · exact keep
 | rptr x o z k p=>
   simp only [L.ren]
   split
   · rename_i hx
     have:x=i:=by simpa using hx
     subst this
     intro _;rw [h (by simp)];simp [gL]
   · exact keep
 | clo f caps=>
   simp only [L.ren]
   split
   · intro hn;exact absurd rfl hn
   · exact keep
 | _=>exact keep
theorem ren_seg {i j:Nat} {l:L}:isSeg (l.ren i j)=isSeg l:=by
 cases l<;>simp only [L.ren]<;>first | rfl | (split<;>rfl)
theorem ren_relLs {ρ:Nat→Loc} {i j:Nat}:∀ {ls:List L} {vs:List Value},RelLs ρ ls vs→j ∉ lnames ls→RelLs (fun m=>if m=j then ρ i else ρ m) (renLs i j ls) vs
 | [],_,h,_=>h
 | l::ls,vs,⟨us,ws,e,h1,h2⟩,hj=>by
   simp only [lnames,List.mem_append,not_or] at hj
   refine ⟨us,ws,e,?_,ren_relLs h2 hj.2⟩
   cases hs:isSeg l with
   | true=>cases l<;>simp [isSeg] at hs;exact h1
   | false=>
     obtain ⟨v,h3,h4⟩:=(relI_one hs).1 h1
     exact (relI_one (by rw [ren_seg,hs])).2 ⟨v,h3,ren_relL h4 hj.1⟩
theorem ren_relVs {ρ:Nat→Loc} {i j:Nat}:∀ {ls:List (Bool×List L)} {vs:List Value},RelVs ρ ls vs→j ∉ vnames ls→RelVs (fun m=>if m=j then ρ i else ρ m) (renVs i j ls) vs
 | [],[],_,_=>trivial
 | (true,_)::_,_::_,⟨⟨cs,e,h1⟩,h2⟩,hj=>by
   simp only [vnames,List.mem_append,not_or] at hj
   exact ⟨⟨cs,e,ren_relLs h1 hj.1⟩,ren_relVs h2 hj.2⟩
 | (false,[_])::_,_::_,⟨h1,h2⟩,hj=>by
   simp only [vnames,lnames,List.append_nil,List.mem_append,not_or] at hj
   exact ⟨ren_relL h1 hj.1,ren_relVs h2 hj.2⟩
 | [],_::_,h,_=>h.elim
 | (true,_)::_,[],h,_=>h.elim
 | (false,[])::_,[],h,_=>h.elim
 | (false,[])::_,_::_,h,_=>h.elim
 | (false,_::_::_)::_,[],h,_=>h.elim
 | (false,_::_::_)::_,_::_,h,_=>h.elim
 | (false,[_])::_,[],h,_=>h.elim
theorem ren_relA {ρ:Nat→Loc} {i j:Nat} {v:AV} {u:Value} (h:RelA ρ v u) (hj:j ∉ v.names):RelA (fun m=>if m=j then ρ i else ρ m) (v.ren i j) u:=by
 cases v with
 | one l=>exact ren_relL h hj
 | agg ls=>obtain ⟨cs,e,h⟩:=h;exact ⟨cs,e,ren_relLs h hj⟩
 | tup vs=>obtain ⟨cs,e,h⟩:=h;exact ⟨cs,e,ren_relVs h hj⟩
theorem inCaps_capN {d m:Nat}:∀ {caps:List (Nat×Nat)},inCaps d caps=false→m∈capN caps→m≠d
 | [],_,h=>by simp [capN] at h
 | (x,o)::r,h,hm=>by
   simp only [inCaps] at h
   split at h
   · cases h
   · rename_i hx
     rcases List.mem_cons.1 (show m∈x::capN r from hm) with rfl | hm
     · exact Nat.ne_of_beq_eq_false hx
     · exact inCaps_capN h hm
theorem ren_namesL {i j m:Nat} {l:L} (h:m∈(l.ren i j).names):(m=j∧i∈l.names)∨(m∈l.names∧m≠i):=by
 cases l with
 | ptr x o=>
   simp only [L.ren] at h
   split at h
   · rename_i hx
     have hx':=Nat.eq_of_beq_eq_true hx
     subst hx'
     exact .inl ⟨List.mem_singleton.1 h,List.mem_singleton.2 rfl⟩
   · rename_i hx
     exact .inr ⟨h,by rw [List.mem_singleton.1 h];exact Nat.ne_of_beq_eq_false hx⟩
 | eptr x o n k=>
   simp only [L.ren] at h
   split at h
   · rename_i hx
     have hx':=Nat.eq_of_beq_eq_true hx
     subst hx'
     exact .inl ⟨List.mem_singleton.1 h,List.mem_singleton.2 rfl⟩
   · rename_i hx
     exact .inr ⟨h,by rw [List.mem_singleton.1 h];exact Nat.ne_of_beq_eq_false hx⟩
 | slc x o n c=>
   simp only [L.ren] at h
   split at h
   · rename_i hx
     have hx':=Nat.eq_of_beq_eq_true hx
     subst hx'
     exact .inl ⟨List.mem_singleton.1 h,List.mem_singleton.2 rfl⟩
   · rename_i hx
     exact .inr ⟨h,by rw [List.mem_singleton.1 h];exact Nat.ne_of_beq_eq_false hx⟩
 | rptr x o z k p=>
   simp only [L.ren] at h
   split at h
   · rename_i hx
     have hx':=Nat.eq_of_beq_eq_true hx
     subst hx'
     exact .inl ⟨List.mem_singleton.1 h,List.mem_singleton.2 rfl⟩
   · rename_i hx
     exact .inr ⟨h,by rw [List.mem_singleton.1 h];exact Nat.ne_of_beq_eq_false hx⟩
 | rsl x n=>
   simp only [L.ren] at h
   split at h
   · rename_i hx
     have hx':=Nat.eq_of_beq_eq_true hx
     subst hx'
     exact .inl ⟨List.mem_singleton.1 h,List.mem_singleton.2 rfl⟩
   · rename_i hx
     exact .inr ⟨h,by rw [List.mem_singleton.1 h];exact Nat.ne_of_beq_eq_false hx⟩
 | rsc x z k q n=>
   simp only [L.ren] at h
   split at h
   · rename_i hx
     have hx':=Nat.eq_of_beq_eq_true hx
     subst hx'
     exact .inl ⟨List.mem_singleton.1 h,List.mem_singleton.2 rfl⟩
   · rename_i hx
     exact .inr ⟨h,by rw [List.mem_singleton.1 h];exact Nat.ne_of_beq_eq_false hx⟩
 | imap x=>
   simp only [L.ren] at h
   split at h
   · rename_i hx
     have hx':=Nat.eq_of_beq_eq_true hx
     subst hx'
     exact .inl ⟨List.mem_singleton.1 h,List.mem_singleton.2 rfl⟩
   · rename_i hx
     exact .inr ⟨h,by rw [List.mem_singleton.1 h];exact Nat.ne_of_beq_eq_false hx⟩
 | clo f caps=>
   simp only [L.ren] at h
   split at h
   · simp [L.names] at h
   · rename_i hx
     exact .inr ⟨h,inCaps_capN hx h⟩
 | _=>simp [L.ren,L.names] at h
theorem ren_namesLs {i j m:Nat}:∀ {ls:List L},m∈lnames (renLs i j ls)→(m=j∧i∈lnames ls)∨(m∈lnames ls∧m≠i)
 | [],h=>by simp [renLs,lnames] at h
 | l::ls,h=>by
   simp only [renLs,lnames,List.mem_append] at h ⊢
   rcases h with h | h
   · rcases ren_namesL h with ⟨h1,h2⟩ | ⟨h1,h2⟩
     · exact .inl ⟨h1,.inl h2⟩
     · exact .inr ⟨.inl h1,h2⟩
   · rcases ren_namesLs h with ⟨h1,h2⟩ | ⟨h1,h2⟩
     · exact .inl ⟨h1,.inr h2⟩
     · exact .inr ⟨.inr h1,h2⟩
theorem ren_namesB {i j m:Nat} {b:Blk} (h:m∈(b.ren i j).names):(m=j∧i∈b.names)∨(m∈b.names∧m≠i):=by
 cases b with
 | cells T ls=>exact ren_namesLs h
 | ro T ls=>exact ren_namesLs h
 | vec T ls=>exact ren_namesLs h
 | _=>exact absurd h (by simp [Blk.ren,Blk.names])
theorem ren_own {i j:Nat} {b:Blk}:(b.ren i j).own=b.own:=by cases b<;>rfl
theorem renLs_len {i j:Nat}:∀ {ls:List L},(renLs i j ls).length=ls.length
 | []=>rfl
 | _::ls=>congrArg (· + 1) (renLs_len (ls:=ls))
theorem ren_relB {ρ:Nat→Loc} {i j:Nat} {b:Blk} {q:Loc} {o:Option Obj} (h:RelB ρ q b o) (hj:j ∉ b.names):RelB (fun m=>if m=j then ρ i else ρ m) q (b.ren i j) o:=by
 cases b with
 | cells T ls=>obtain ⟨cs,e,h1,h2⟩:=h;exact ⟨cs,e,h1,ren_relLs h2 hj⟩
 | ro T ls=>obtain ⟨cs,fr,e,us,ws,h1,h2⟩:=h;exact ⟨cs,fr,e,us,ws,h1,ren_relLs h2 hj⟩
 | vec T ls=>
   obtain ⟨cs,e,h1,h2,h3,h4,h5⟩:=h
   exact ⟨cs,e,h1,h2,by rw [renLs_len];exact h3,h4,by rw [renLs_len];exact ren_relLs h5 hj⟩
 | row T z n f=>exact h
 | imap es=>exact h
 | romap es=>exact h
theorem RelS.ren {ρ:Nat→Loc} {t:List AV} {h:Nat→Option Blk} {a:Act} {w:World} (R:RelS base w0 ρ ⟨t,h⟩ a w) {i j:Nat} (hij:i≠j) (hj:h j=none) (hnj:base.nm≤j) (hni:base.nm≤i)
 (ht:∀ n,i ∉ (getT t n).names) {h':Nat→Option Blk} (hh:∀ m,h' m=if m=j then (h i).map (Blk.ren i j) else if m=i then none else (h m).map (Blk.ren i j)) :
 RelS base w0 (fun m=>if m=j then ρ i else ρ m) ⟨t,h'⟩ a w:=by
 have hjn:∀ {l:List Nat},(∀ m∈l,h m≠none)→j ∉ l:=fun hl hm=>hl j hm hj
 have hag:∀ {l:List Nat},(∀ m∈l,h m≠none)→∀ m∈l,(fun m=>if m=j then ρ i else ρ m) m=ρ m:=fun hl m hm=>if_neg (fun e:m=j=>hjn hl (by rw [← e];exact hm))
 have hto:∀ m,m≠i→h m≠none→h' m≠none:=fun m hm hs=>by
  have hmj:m≠j:=fun e=>hs (e ▸ hj)
  rw [hh,if_neg hmj,if_neg hm]
  cases e:h m with
  | none=>exact absurd e hs
  | some b=>simp
 have old:∀ m b,h' m=some b→∃ m0 b0,h m0=some b0∧b=b0.ren i j∧(if m=j then ρ i else ρ m)=ρ m0∧((m=j∧m0=i)∨(m≠j∧m0=m∧m≠i)):=fun m b hm=>by
  rw [hh] at hm
  split at hm
  · rename_i e
    obtain ⟨b0,h1,h2⟩:=Option.map_eq_some_iff.1 hm
    exact ⟨i,b0,h1,h2.symm,if_pos e,.inl ⟨e,rfl⟩⟩
  · rename_i e
    split at hm
    · cases hm
    · rename_i e2
      obtain ⟨b0,h1,h2⟩:=Option.map_eq_some_iff.1 hm
      exact ⟨m,b0,h1,h2.symm,if_neg e,.inr ⟨e,rfl,e2⟩⟩
 refine ⟨R.defers,R.size,⟨fun n=>relA_agree (R.ctx.tmps n) (hag (R.ctx.names n)),fun m b hm=> ?_,fun n m hm=>hto m (fun e=>ht n (e ▸ hm)) (R.ctx.names n m hm),fun m b hm x hx=> ?_⟩,fun m c hm=> ?_,fun m n c d hm hn ho e=> ?_,R.below,R.base,fun m hm=> ?_,R.far.to (Nat.le_refl _) (fun _ _ _=>rfl) fun m c h1 h2=>by
  obtain ⟨m0,b0,h3,h5,h4,_⟩:=old m c h1
  exact .inr ⟨m0,b0,h3,by rw [← h2,h5,ren_own],congrArg Loc.b h4⟩⟩
 · obtain ⟨m0,b0,h1,rfl,h2,_⟩:=old m b hm
   show RelB _ (if m=j then ρ i else ρ m) _ w.heap[(if m=j then ρ i else ρ m).b]?
   rw [h2]
   exact ren_relB (R.ctx.heap m0 b0 h1) (hjn (R.ctx.namesH m0 b0 h1))
 · obtain ⟨m0,b0,h1,rfl,_,_⟩:=old m b hm
   rcases ren_namesB hx with ⟨e,h3⟩ | ⟨h3,h4⟩
   · have h5:=R.ctx.namesH m0 b0 h1 i h3
     show h' x≠none
     rw [e,hh,if_pos rfl]
     cases e2:h i with
     | none=>exact absurd e2 h5
     | some b=>simp
   · exact hto x h4 (R.ctx.namesH m0 b0 h1 x h3)
 · obtain ⟨m0,b0,h1,rfl,h2,_⟩:=old m c hm
   show (_=true→base.b≤(if m=j then ρ i else ρ m).b)∧(_=false→(if m=j then ρ i else ρ m).b<base.b)
   rw [h2,ren_own];exact R.low m0 b0 h1
 · obtain ⟨m0,b0,h1,rfl,h2,h3⟩:=old m c hm
   obtain ⟨n0,d0,h4,rfl,h5,h6⟩:=old n d hn
   replace e:(if m=j then ρ i else ρ m).b=(if n=j then ρ i else ρ n).b:=e
   rw [h2,h5] at e
   rw [ren_own] at ho
   have:=R.inj m0 n0 b0 d0 h1 h4 ho e
   rcases h3 with ⟨a1,a2⟩ | ⟨a1,a2,a3⟩<;>rcases h6 with ⟨b1,b2⟩ | ⟨b1,b2,b3⟩
   · rw [a1,b1]
   · exact absurd (by rw [← b2,← this,a2]) b3
   · exact absurd (by rw [← a2,this,b2]) a3
   · rw [← a2,this,b2]
 · obtain ⟨h1,h2,h3⟩:=R.frame m hm
   have hmj:m≠j:=by omega
   have hmi:m≠i:=by omega
   exact ⟨h1,hto m hmi h2,(if_neg hmj).trans h3⟩
theorem renK_eq {tp:Nat} (hnt:base.nm≤tp) {u:Value} {a:Act} {w:World} {kw:List (Nat×Bool)}:∀ (l:List Nat) (d:Nat) (v:AV) (t:List AV) (h:List (Nat×Blk)) (k:AV→List AV→List (Nat×Blk)→Prop) (ρ:Nat→Loc),
 renK base.nm tp l d v t h k→(∀ i∈l,tp≤i)→RelS base w0 ρ ⟨t,look h⟩ a w→(∀ n,∀ m∈(getT t n).names,m<tp)→RelA ρ v u→KnOK kw t →
 ∃ v' t' h' ρ',k v' t' h'∧RelS base w0 ρ' ⟨t',look h'⟩ a w∧RelA ρ' v' u∧KnOK kw t'
 | [],d,v,t,h,k,ρ,hr,_,R,_,hv,hk=>⟨v,t,h,ρ,hr,R,hv,hk⟩
 | i::l,d,v,t,h,k,ρ,hr,hge,R,ht,hv,hk=>by
   have e:renK base.nm tp (i::l) d v t h k=(withName base.nm d fun j=>match Nat.blt j tp,inNs j v.names with
    | true,false=>purgeTK j t fun t=>purgeHK j h fun h=>renHK i j h fun h=>forceA (v.ren i j) fun v=>renK base.nm tp l (d + 1) v t h k
    | _,_=>Stuck "out"):=rfl
   rw [e,withName_eq] at hr
   split at hr
   · rename_i hlt hin
     have hlt':nameOf base.nm d<tp:=by simpa using hlt
     have hi:=hge i (by simp)
     rw [purgeTK_eq] at hr
     obtain ⟨h1,e1,e2⟩:=purgeHK_eq (nameOf base.nm d) h fun h=>renHK i (nameOf base.nm d) h fun h=>forceA (v.ren i (nameOf base.nm d)) fun v=>renK base.nm tp l (d + 1) v (t.map (AV.purge (nameOf base.nm d))) h k
     rw [e1] at hr
     have R1:=R.purge (nameOf base.nm d) (nameOf_le _ _) e2
     have hj:look h1 (nameOf base.nm d)=none:=by rw [e2,if_pos rfl]
     obtain ⟨h2,e3,e4⟩:=renHK_eq i (nameOf base.nm d) (by omega) h1 (fun h=>forceA (v.ren i (nameOf base.nm d)) fun v=>renK base.nm tp l (d + 1) v (t.map (AV.purge (nameOf base.nm d))) h k) hj
     rw [e3,forceA_eq] at hr
     have ht1:∀ n,∀ m∈(getT (t.map (AV.purge (nameOf base.nm d))) n).names,m<tp:=fun n m hm=>by
      rw [getT_map] at hm
      exact ht n m (purge_namesA hm).1
     have R2:=RelS.ren R1 (i:=i) (j:=nameOf base.nm d) (by omega) hj (nameOf_le _ _) (by omega) (fun n hm=>by have:=ht1 n i hm;omega) e4
     exact renK_eq hnt l (d + 1) _ _ h2 k _ hr (fun x hx=>hge x (by simp [hx])) R2 ht1 (ren_relA hv (inNs_no hin)) (hk.purge _)
   · cases hr
theorem outK_eq (hnm:base.nm=C.nm) {dst:Option Nat} {v:AV} {t:List AV} {h:List (Nat×Blk)} {k:AV→List AV→List (Nat×Blk)→Prop} {u:Value} {a:Act} {w:World} {ρ:Nat→Loc} {kw:List (Nat×Bool)}
 (ho:outK C dst v t h k) (R:RelS base w0 ρ ⟨t,look h⟩ a w) (ht:∀ n,∀ m∈(getT t n).names,m<C.tp) (hv:RelA ρ v u) (hn:∀ m∈v.names,look h m≠none) (hk:KnOK kw t) :
 ∃ v' t' h' ρ',k v' t' h'∧RelS base w0 ρ' ⟨t',look h'⟩ a w∧RelA ρ' v' u∧(∀ m∈v'.names,look h' m≠none)∧KnOK kw t':=by
 unfold outK at ho
 split at ho
 · exact ⟨v,t,h,ρ,ho,R,hv,hn,hk⟩
 · rename_i i r hnew
   split at ho
   · cases ho
   · rename_i d hd
     split at ho
     · rename_i hle
       have hle':base.nm≤C.tp:=by rw [hnm];simpa using hle
       rw [← hnm] at ho
       obtain ⟨v',t',h',ρ',h1,h2,h3,h4⟩:=renK_eq hle' _ _ _ _ _ _ ρ ho (fun x hx=>by rw [← hnew] at hx;exact newNs_ge x hx) R ht hv hk
       split at h1
       · rename_i ha _
         exact ⟨v',t',h',ρ',h1,h2,h3,allInN_spec ha,h4⟩
       · cases h1
     · cases ho
theorem runOps_wp (hC:CSound P G C) (hG:G w0) (hb0:base.b=w0.heap.size) (hnm:base.nm=C.nm) {ops:Array Oper} {Q:Exit→Act→World→Prop} :
 ∀ (r:List Oper) (kw:List (Nat×Bool)) (s:S) (k:List FP→S→Prop) (ρ:Nat→Loc) (a:Act) (w:World),KnOK kw s.t→runOps P C ops.toList r kw s k →
 RelS base w0 ρ s.abs a w→(∀ fps s' ρ a w,k fps s'→RelS base w0 ρ s'.abs a w→Q .normal a w)→wpList P ops Q r a w
 | [],kw,s,k,ρ,a,w,_,h,R,hQ=>hQ [] s ρ a w h R
 | o::r,kw,s,k,ρ,a,w,hk,h,R,hQ=>by
   have step:∀ {kw':List (Nat×Bool)} {fp:FP} {s1:S},Step P C ops.toList o fp s.abs s1.abs→KnOK kw' s1.t→runOps P C ops.toList r kw' s1 (fun fps=>k (fp::fps))→wpList P ops Q (o::r) a w:=by
    intro kw' fp s1 hst hk' h
    have:=sim_step (Q:=Q) (K:=wpList P ops Q r) hC hG hb0 hnm hst R (fun ρ' a' w' R'=>runOps_wp hC hG hb0 hnm r kw' s1 _ ρ' a' w' hk' h R' fun fps s' ρ a w h R=>hQ (fp::fps) s' ρ a w h R)
    unfold wpList
    split
    · rename_i hw;rw [if_pos hw] at this;exact .inl this
    · rename_i hw;rw [if_neg hw] at this;exact this
   obtain ⟨kw',hk',⟨hw,h⟩ | ⟨hw,h⟩⟩:=runOps_split hk h
   · by_cases hap:C.app≠ .no∧∃ c b e z m x,req P o.op s.t=some (c,.app b e z m x)
     · obtain ⟨hap0,c,bs,e,z,m,x,hr⟩:=hap
       unfold opK at h
       rw [hr] at h
       obtain ⟨hc,h⟩:=withC_eq h
       simp only [doK] at h
       split at h
       · rename_i ha;exact absurd ha hap0
       · split at h
         · cases h
         rename_i d hdst
         obtain ⟨T,tx,inf,zv,ty,vs,vx,hT,hi,hz,hsz,hzs,h0,hby,hsm,hrun,hvs,hsrc⟩:=req_ok R.ctx hr hc
         subst hsz
         obtain ⟨c',g,hk0,hg⟩:=srcK_eq hsrc h
         clear h
         obtain ⟨hc',h⟩:=withC_eq hk0
         clear hk0
         replace hg:=hg hc'
         have go:∀ {v':Value} {w':World} {ρ':Nat→Loc} {s0 s1:S} {l:AV} {fp:FP},(Builtin.append_ #[T,tx] ty #[vs,vx]).run P w= .ok v' w'→s1.abs=s0.abs.put (some d) l→RelS base w0 ρ' s0.abs a w'→RelA ρ' l v'→(∀ n∈l.names,look s0.h n≠none) →
          KnOK kw' s0.t→runOps P C ops.toList r (kmove kw' o.op o.dst) s1 (fun fps=>k (fp::fps))→wpList P ops Q (o::r) a w:=by
          intro v' w' ρ' s0 s1 l fp hrun' e1 R0 hrel hnm' hkn h
          unfold wpList
          rw [wanted_of R hw]
          simp only [if_true]
          refine .inl ?_
          unfold Oper.wp
          rw [hrun v' w' hrun',Oper.upon_value,hdst]
          have R':RelS base w0 ρ' s1.abs (a.put (some d) v') w':=by
           rw [e1]
           exact R0.put (some d) hrel hnm'
          refine runOps_wp hC hG hb0 hnm r (kmove kw' o.op o.dst) s1 _ ρ' _ w' ?_ h R' fun fps s' ρ a w h R=>hQ (_::fps) s' ρ a w h R
          have e2:s1.t=(s0.abs.put (some d) l).t:=by rw [← e1];rfl
          rw [e2,hdst]
          refine kmove_other hkn (fun x e=> ?_) (fun x e=> ?_) (fun c x y e=> ?_)
          · rw [e] at hr;simp [req] at hr
          · rw [e] at hr;simp [req] at hr
          · rw [e] at hr;simp only [req] at hr;split at hr<;>simp at hr
         cases bs with
         | some p=>
           obtain ⟨i,n⟩:=p
           dsimp only at h hvs hsm
           split at h
           · rename_i hle
             have hle':base.nm≤i:=by rw [hnm];simpa using hle
             split at h
             · rename_i T' z' n' f hb
               split at h
               · rename_i hTe hzz
                 have hTe':T'=e:=by simpa using hTe
                 have hzz':z'=inf.size:=by simpa using hzz
                 subst hTe'
                 subst hzz'
                 have hx:=withC_eq h
                 clear h
                 obtain ⟨hcond,h⟩:=hx
                 obtain ⟨rfl,hgl⟩:n=n'∧∀ j,j<m→(g j).length=inf.size:=hcond
                 rw [purgeTK_eq] at h
                 obtain ⟨l',h1,h2⟩:=purgeHK_eq i s.h fun h=>putK ⟨s.t.map (AV.purge i),(i,.row T' inf.size (n + m) (joinI n f g))::h⟩ (some d) (.one (.rsl i (n + m))) fun s=>runOps P C ops.toList r (kmove kw' o.op o.dst) s fun fps=>k ((true,[i])::fps)
                 replace h:purgeHK i s.h (fun h=>putK ⟨s.t.map (AV.purge i),(i,.row T' inf.size (n + m) (joinI n f g))::h⟩ (some d) (.one (.rsl i (n + m))) fun s=>runOps P C ops.toList r (kmove kw' o.op o.dst) s fun fps=>k ((true,[i])::fps)):=by
                  exact h
                 rw [h1] at h
                 obtain ⟨s1,e1,h⟩:=putK_eq h
                 obtain ⟨news,hsr,hseg⟩:=hg hgl
                 obtain ⟨rfl,-⟩:=hvs
                 obtain ⟨v',w',ρ',hr1,hR1,hrel⟩:=app_some (P:=P) R hT hi hz hzs h0 hby (ty:=ty) hsm hb hle' (fun us vs h h'=>h.joinI h') hsr hseg (h':=look l') h2
                 refine go (s0:=⟨s.t.map (AV.purge i),(i,.row T' inf.size (n + m) (joinI n f g))::l'⟩) (l:= .one (.rsl i (n + m))) hr1 e1 (by rw [show (S.abs ⟨s.t.map (AV.purge i),(i,.row T' inf.size (n + m) (joinI n f g))::l'⟩)=⟨s.abs.t.map (AV.purge i),upd (look l') i (.row T' inf.size (n + m) (joinI n f g))⟩ by simp [S.abs,look_cons]];exact hR1) hrel (by simp [AV.names,L.names,look_eq_beq]) (hk'.purge i) h
               · cases h
             · cases h
           · cases h
         | none=>
           dsimp only at h hvs hsm
           have hx:=withC_eq h
           clear h
           obtain ⟨hgl,h⟩:=hx
           replace hgl:∀ j,j<m→(g j).length=inf.size:=hgl
           obtain ⟨news,hsr,hseg⟩:=hg hgl
           have hvs:vs= .slice none 0 0:=hvs
           subst hvs
           by_cases hm0:m=0
           · subst hm0
             replace h:putK s (some d) (.one (.raw (.slice none 0 0))) (fun s=>runOps P C ops.toList r (kmove kw' o.op o.dst) s fun fps=>k ((true,[])::fps)):=h
             obtain ⟨s1,e1,h⟩:=putK_eq h
             exact go (s0:=s) (l:= .one (.raw (.slice none 0 0))) (app_zero hT hi hsr) e1 R (fun _=>rfl) (by simp [AV.names,L.names]) hk' h
           · rw [show Nat.beq m 0=false by cases hx:Nat.beq m 0 with | true=>exact absurd (by simpa using hx) hm0 | false=>rfl] at h
             dsimp only at h
             rw [withName_eq,purgeTK_eq] at h
             obtain ⟨l',h1,h2⟩:=purgeHK_eq (nameOf C.nm d) s.h fun h=>putK ⟨s.t.map (AV.purge (nameOf C.nm d)),(nameOf C.nm d,.row e inf.size m g)::h⟩ (some d) (.one (.rsl (nameOf C.nm d) m)) fun s=>runOps P C ops.toList r (kmove kw' o.op o.dst) s fun fps=>k ((true,[nameOf C.nm d])::fps)
             replace h:purgeHK (nameOf C.nm d) s.h (fun h=>putK ⟨s.t.map (AV.purge (nameOf C.nm d)),(nameOf C.nm d,.row e inf.size m g)::h⟩ (some d) (.one (.rsl (nameOf C.nm d) m)) fun s=>runOps P C ops.toList r (kmove kw' o.op o.dst) s fun fps=>k ((true,[nameOf C.nm d])::fps)):=by
              exact h
             rw [h1] at h
             obtain ⟨s1,e1,h⟩:=putK_eq h
             have hnm':base.nm≤nameOf C.nm d:=by rw [hnm];exact nameOf_le _ _
             obtain ⟨v',w',ρ',hr1,hR1,hrel⟩:=app_none (P:=P) R hT hi hz hzs h0 hby (ty:=ty) (by simpa using hsm) hnm' hsr hseg (h':=look l') h2 hm0
             refine go (s0:=⟨s.t.map (AV.purge (nameOf C.nm d)),(nameOf C.nm d,.row e inf.size m g)::l'⟩) (l:= .one (.rsl (nameOf C.nm d) m)) hr1 e1 (by rw [show (S.abs ⟨s.t.map (AV.purge (nameOf C.nm d)),(nameOf C.nm d,.row e inf.size m g)::l'⟩)=⟨s.abs.t.map (AV.purge (nameOf C.nm d)),upd (look l') (nameOf C.nm d) (.row e inf.size m g)⟩ by simp [S.abs,look_cons]];exact hR1) hrel (by simp [AV.names,L.names,look_eq_beq]) (hk'.purge _) h
       · split at h
         · cases h
         rename_i d hdst
         obtain ⟨T,tx,inf,zv,ty,vs,vx,hT,hi,hz,hsz,hzs,h0,hby,hsm,hrun,hvs,hsrc⟩:=req_ok R.ctx hr hc
         subst hsz
         have go:∀ {v':Value} {w':World} {ρ':Nat→Loc} {s0 s1:S} {l:AV} {fp:FP},(Builtin.append_ #[T,tx] ty #[vs,vx]).run P w= .ok v' w'→s1.abs=s0.abs.put (some d) l→RelS base w0 ρ' s0.abs a w'→RelA ρ' l v'→(∀ n∈l.names,look s0.h n≠none) →
          KnOK kw' s0.t→runOps P C ops.toList r (kmove kw' o.op o.dst) s1 (fun fps=>k (fp::fps))→wpList P ops Q (o::r) a w:=by
          intro v' w' ρ' s0 s1 l fp hrun' e1 R0 hrel hnm' hkn h
          unfold wpList
          rw [wanted_of R hw]
          simp only [if_true]
          refine .inl ?_
          unfold Oper.wp
          rw [hrun v' w' hrun',Oper.upon_value,hdst]
          have R':RelS base w0 ρ' s1.abs (a.put (some d) v') w':=by
           rw [e1]
           exact R0.put (some d) hrel hnm'
          refine runOps_wp hC hG hb0 hnm r (kmove kw' o.op o.dst) s1 _ ρ' _ w' ?_ h R' fun fps s' ρ a w h R=>hQ (_::fps) s' ρ a w h R
          have e2:s1.t=(s0.abs.put (some d) l).t:=by rw [← e1];rfl
          rw [e2,hdst]
          refine kmove_other hkn (fun x e=> ?_) (fun x e=> ?_) (fun c x y e=> ?_)
          · rw [e] at hr;simp [req] at hr
          · rw [e] at hr;simp [req] at hr
          · rw [e] at hr;simp only [req] at hr;split at hr<;>simp at hr
         cases hvo:vecOf x s.h inf.size m with
         | some l=>
           rw [hvo] at h
           dsimp only at h
           have hV:=h
           clear h
           obtain ⟨hs1,rfl,hok,⟨j0,T0,hb0⟩,v0,hsr,hrl⟩:=vecOf_spec hsrc hvo
           have hnl:∀ m∈l.names,look s.h m≠none:=fun m hm=>R.ctx.namesH j0 _ hb0 m (by simpa [Blk.names,lnames] using hm)
           cases bs with
           | none=>
             dsimp only at hV hvs hsm
             have hvs:vs= .slice none 0 0:=hvs
             subst hvs
             rw [withName_eq] at hV
             split at hV
             · cases hV
             · rename_i hni
               rw [purgeTK_eq] at hV
               obtain ⟨l',h1,h2⟩:=purgeHK_eq (nameOf C.nm d) s.h fun h=>putK ⟨s.t.map (AV.purge (nameOf C.nm d)),(nameOf C.nm d,.vec e [l])::h⟩ (some d) (.one (.rsl (nameOf C.nm d) 1)) fun s=>runOps P C ops.toList r (kmove kw' o.op o.dst) s fun fps=>k ((true,[nameOf C.nm d])::fps)
               replace hV:purgeHK (nameOf C.nm d) s.h (fun h=>putK ⟨s.t.map (AV.purge (nameOf C.nm d)),(nameOf C.nm d,.vec e [l])::h⟩ (some d) (.one (.rsl (nameOf C.nm d) 1)) fun s=>runOps P C ops.toList r (kmove kw' o.op o.dst) s fun fps=>k ((true,[nameOf C.nm d])::fps)):=hV
               rw [h1] at hV
               obtain ⟨s1,e1,hV⟩:=putK_eq hV
               have hnm':base.nm≤nameOf C.nm d:=by rw [hnm];exact nameOf_le _ _
               obtain ⟨v',w',ρ',hr1,hR1,hrel⟩:=app_noneV (P:=P) R hT hi hz hzs h0 hby (ty:=ty) hs1 hrl hok hnl (inNs_not hni) hnm' hsr rfl (h':=look l') h2
               refine go (s0:=⟨s.t.map (AV.purge (nameOf C.nm d)),(nameOf C.nm d,.vec e [l])::l'⟩) (l:= .one (.rsl (nameOf C.nm d) 1)) hr1 e1 (by rw [show (S.abs ⟨s.t.map (AV.purge (nameOf C.nm d)),(nameOf C.nm d,.vec e [l])::l'⟩)=⟨s.abs.t.map (AV.purge (nameOf C.nm d)),upd (look l') (nameOf C.nm d) (.vec e [l])⟩ by simp [S.abs,look_cons]];exact hR1) hrel (by simp [AV.names,L.names,look_eq_beq]) (hk'.purge _) hV
           | some p=>
             obtain ⟨i,n⟩:=p
             dsimp only at hV hvs hsm
             split at hV
             · rename_i hle
               have hle':base.nm≤i:=by rw [hnm];simpa using hle
               split at hV
               · rename_i T' ls hb
                 split at hV
                 · rename_i hTe hln hni hni2
                   have hTe':T'=e:=by simpa using hTe
                   have hln':ls.length=n:=by simpa using hln
                   subst hTe'
                   rw [purgeTK_eq] at hV
                   obtain ⟨l',h1,h2⟩:=purgeHK_eq i s.h fun h=>putK ⟨s.t.map (AV.purge i),(i,.vec T' (appL ls [l]))::h⟩ (some d) (.one (.rsl i (n + 1))) fun s=>runOps P C ops.toList r (kmove kw' o.op o.dst) s fun fps=>k ((true,[i])::fps)
                   replace hV:purgeHK i s.h (fun h=>putK ⟨s.t.map (AV.purge i),(i,.vec T' (appL ls [l]))::h⟩ (some d) (.one (.rsl i (n + 1))) fun s=>runOps P C ops.toList r (kmove kw' o.op o.dst) s fun fps=>k ((true,[i])::fps)):=hV
                   rw [h1] at hV
                   obtain ⟨s1,e1,hV⟩:=putK_eq hV
                   obtain ⟨rfl,-⟩:=hvs
                   obtain ⟨v',w',ρ',hr1,hR1,hrel⟩:=app_someV (P:=P) R hT hi hz hzs h0 hby (ty:=ty) hsm hb hln' hle' hs1 hrl hok hnl (inNs_not hni) (inNs_not hni2) hsr rfl (h':=look l') h2
                   refine go (s0:=⟨s.t.map (AV.purge i),(i,.vec T' (appL ls [l]))::l'⟩) (l:= .one (.rsl i (n + 1))) hr1 e1 (by rw [show (S.abs ⟨s.t.map (AV.purge i),(i,.vec T' (appL ls [l]))::l'⟩)=⟨s.abs.t.map (AV.purge i),upd (look l') i (.vec T' (appL ls [l]))⟩ by simp [S.abs,look_cons]];exact hR1) hrel (by simp [AV.names,L.names,look_eq_beq]) (hk'.purge i) hV
                 · cases hV
               · cases hV
             · cases hV
         | none=>
         rw [hvo] at h
         dsimp only at h
         obtain ⟨c',g,hk0,hg⟩:=srcK_eq hsrc h
         clear h
         obtain ⟨hc',h⟩:=withC_eq hk0
         clear hk0
         replace hg:=hg hc'
         cases bs with
         | some p=>
           obtain ⟨i,n⟩:=p
           dsimp only at h hvs hsm
           split at h
           · rename_i hle
             have hle':base.nm≤i:=by rw [hnm];simpa using hle
             split at h
             · rename_i T' z' n' f hb
               split at h
               · rename_i hTe hzz
                 have hTe':T'=e:=by simpa using hTe
                 have hzz':z'=inf.size:=by simpa using hzz
                 subst hTe'
                 subst hzz'
                 have hx:=withC_eq h
                 clear h
                 obtain ⟨hcond,h⟩:=hx
                 obtain ⟨rfl,hf,hgl⟩:n=n'∧(∀ j,(f j).length=inf.size)∧∀ j,(g j).length=inf.size:=hcond
                 rw [purgeTK_eq] at h
                 obtain ⟨l',h1,h2⟩:=purgeHK_eq i s.h fun h=>putK ⟨s.t.map (AV.purge i),(i,.row T' inf.size (n + m) (joinF n f g))::h⟩ (some d) (.one (.rsl i (n + m))) fun s=>runOps P C ops.toList r (kmove kw' o.op o.dst) s fun fps=>k ((true,[i])::fps)
                 replace h:purgeHK i s.h (fun h=>putK ⟨s.t.map (AV.purge i),(i,.row T' inf.size (n + m) (joinF n f g))::h⟩ (some d) (.one (.rsl i (n + m))) fun s=>runOps P C ops.toList r (kmove kw' o.op o.dst) s fun fps=>k ((true,[i])::fps)):=by
                  exact h
                 rw [h1] at h
                 obtain ⟨s1,e1,h⟩:=putK_eq h
                 obtain ⟨news,hsr,hseg⟩:=hg fun i _=>hgl i
                 obtain ⟨rfl,-⟩:=hvs
                 obtain ⟨v',w',ρ',hr1,hR1,hrel⟩:=app_some (P:=P) R hT hi hz hzs h0 hby (ty:=ty) hsm hb hle' (fun us vs h h'=>h.join h' hf hgl) hsr hseg (h':=look l') h2
                 refine go (s0:=⟨s.t.map (AV.purge i),(i,.row T' inf.size (n + m) (joinF n f g))::l'⟩) (l:= .one (.rsl i (n + m))) hr1 e1 (by rw [show (S.abs ⟨s.t.map (AV.purge i),(i,.row T' inf.size (n + m) (joinF n f g))::l'⟩)=⟨s.abs.t.map (AV.purge i),upd (look l') i (.row T' inf.size (n + m) (joinF n f g))⟩ by simp [S.abs,look_cons]];exact hR1) hrel (by simp [AV.names,L.names,look_eq_beq]) (hk'.purge i) h
               · cases h
             · cases h
           · cases h
         | none=>
           dsimp only at h hvs hsm
           have hx:=withC_eq h
           clear h
           obtain ⟨hgl,⟨hA⟩,⟨hB⟩⟩:=hx
           replace hgl:∀ j,(g j).length=inf.size:=hgl
           obtain ⟨news,hsr,hseg⟩:=hg fun i _=>hgl i
           have hvs:vs= .slice none 0 0:=hvs
           subst hvs
           by_cases hm0:m=0
           · subst hm0
             have h:=hA rfl
             obtain ⟨s1,e1,h⟩:=putK_eq h
             exact go (s0:=s) (l:= .one (.raw (.slice none 0 0))) (app_zero hT hi hsr) e1 R (fun _=>rfl) (by simp [AV.names,L.names]) hk' h
           · have h:=hB (by cases hx:Nat.beq m 0 with | true=>exact absurd (by simpa using hx) hm0 | false=>rfl)
             rw [withName_eq,purgeTK_eq] at h
             obtain ⟨l',h1,h2⟩:=purgeHK_eq (nameOf C.nm d) s.h fun h=>putK ⟨s.t.map (AV.purge (nameOf C.nm d)),(nameOf C.nm d,.row e inf.size m g)::h⟩ (some d) (.one (.rsl (nameOf C.nm d) m)) fun s=>runOps P C ops.toList r (kmove kw' o.op o.dst) s fun fps=>k ((true,[nameOf C.nm d])::fps)
             replace h:purgeHK (nameOf C.nm d) s.h (fun h=>putK ⟨s.t.map (AV.purge (nameOf C.nm d)),(nameOf C.nm d,.row e inf.size m g)::h⟩ (some d) (.one (.rsl (nameOf C.nm d) m)) fun s=>runOps P C ops.toList r (kmove kw' o.op o.dst) s fun fps=>k ((true,[nameOf C.nm d])::fps)):=by
              exact h
             rw [h1] at h
             obtain ⟨s1,e1,h⟩:=putK_eq h
             have hnm':base.nm≤nameOf C.nm d:=by rw [hnm];exact nameOf_le _ _
             obtain ⟨v',w',ρ',hr1,hR1,hrel⟩:=app_none (P:=P) R hT hi hz hzs h0 hby (ty:=ty) (by simpa using hsm) hnm' hsr hseg (h':=look l') h2 hm0
             refine go (s0:=⟨s.t.map (AV.purge (nameOf C.nm d)),(nameOf C.nm d,.row e inf.size m g)::l'⟩) (l:= .one (.rsl (nameOf C.nm d) m)) hr1 e1 (by rw [show (S.abs ⟨s.t.map (AV.purge (nameOf C.nm d)),(nameOf C.nm d,.row e inf.size m g)::l'⟩)=⟨s.abs.t.map (AV.purge (nameOf C.nm d)),upd (look l') (nameOf C.nm d) (.row e inf.size m g)⟩ by simp [S.abs,look_cons]];exact hR1) hrel (by simp [AV.names,L.names,look_eq_beq]) (hk'.purge _) h
     by_cases hin:∃ c f args,req P o.op s.t=some (c,.call f args)∧C.fn f args (blks (look s.h) (dnames (look s.h) args))=none∧C.mkr f args (blks (look s.h) (dnames (look s.h) args))=none
     · obtain ⟨c,f,args,hr,hn,hmk⟩:=hin
       unfold opK at h
       rw [hr] at h
       obtain ⟨hc,h⟩:=withC_eq h
       simp only [doK,hn,hmk] at h
       split at h
       · rename_i hlt
         obtain ⟨us,hargs,hrun,hnames⟩:=req_ok R.ctx hr hc
         rw [forceAs_eq] at h
         obtain ⟨⟨fn,hf,hname,hbody⟩,hcall⟩:=hC.inl f C.tp args s.h _ h (allLt_spec hlt) hnames
         have hn':fn.name≠ "runtime.NumGoroutine":=by simpa using hname
         have hb':fn.body≠none:=by intro e;simp [e] at hbody
         have h2:(callFunc f us.toArray).run P w= .ok (.enter f us.toArray) w:=by
          simp [callFunc,hf,hn',hb']
         have hgo:=(hcall base.b w0 ρ us w hG hb0 hargs R.toH)
         unfold wpList
         rw [wanted_of R hw]
         simp only [if_true]
         refine .inl ?_
         unfold Oper.wp
         rw [hrun,h2,Oper.upon_enter]
         refine hgo.mono ?_
         rintro e w' ⟨v,h',u,ρ',hK,rfl,hrel,hvn,H,hkeep,hgr,hfk,hnew⟩
         obtain ⟨v2,t2,h2,ρ2,hK,R2,hrel2,hvn2,hk2⟩:=outK_eq hnm hK (R.back H hkeep hgr hfk hnew) (fun n m hm=>allLt_spec hlt m (R.ctx.names n m hm)) hrel hvn hk'
         obtain ⟨s1,e1,hK⟩:=putK_eq hK
         have R':RelS base w0 ρ2 s1.abs (a.put o.dst u) w':=by
          rw [e1]
          exact R2.put o.dst hrel2 hvn2
         refine runOps_wp hC hG hb0 hnm r (kmove kw' o.op o.dst) s1 _ ρ2 _ w' ?_ hK R' fun fps s' ρ a w h R=>hQ (_::fps) s' ρ a w h R
         have e2:s1.t=(AS.put ⟨t2,look h2⟩ o.dst v2).t:=by
          have:s1.abs.t=((S.abs ⟨t2,h2⟩).put o.dst v2).t:=by rw [e1]
          cases hd:o.dst<;>simpa [S.abs,AS.put,hd] using this
         rw [e2]
         refine kmove_other (s:=⟨t2,look h2⟩) hk2 (fun x e=> ?_) (fun x e=> ?_) (fun c x y e=> ?_)
         · rw [e] at hr;simp [req] at hr
         · rw [e] at hr;simp [req] at hr
         · rw [e] at hr;simp only [req] at hr;split at hr<;>simp at hr
       · cases h
     · obtain ⟨fp,s1,h1,h2,h3⟩:=opK_eq hw hk' (fun c f args e1 e2 e3 K _=>hin ⟨c,f,args,e1,e2,e3⟩) (fun c b e z m x hr=>Classical.byContradiction fun hno=>hap ⟨hno,c,b,e,z,m,x,hr⟩) h
       exact step h1 h2 h3
   · obtain ⟨fp,s1,h1,h2,h3⟩:=skipK_eq hw hk' h
     exact step h1 h2 h3
def Ex.to:Ex→Exit
 | .normal=> .normal
 | .ret=> .ret
 | .exit n=> .exit n
def Post (base:Bs) (w0:World) (Qa:Ex→S→Prop):Exit→Act→World→Prop:=fun e a w=>∃ x s ρ,e=Ex.to x∧Qa x s∧RelS base w0 ρ s.abs a w
theorem leT_cons (x:AV) (xs:List AV) (y:AV) (ys:List AV):leT (x::xs) (y::ys)=(match y with
 | .one .junk=>leT xs ys
 | y=>forceA x fun x=>forceA y fun y=>Both (x=y) (leT xs ys)):=rfl
theorem leH_cons (h:List (Nat×Blk)) (i:Nat) (b:Blk) (r:List (Nat×Blk)):leH h ((i,b)::r)=(match look h i with
 | some c=>forceB b fun b=>Both (c=b) (leH h r)
 | none=>Stuck "leH"):=rfl
theorem leT_len:∀ {t t':List AV},leT t t'→t.length=t'.length
 | [],[],_=>rfl
 | x::t,y::t',h=>by
   rw [leT_cons] at h
   have:leT t t':=by
    split at h
    · exact h
    · rw [forceA_eq,forceA_eq] at h;obtain ⟨_,h⟩:=h;exact h
   simp [leT_len this]
 | [],_::_,h=>h.elim
 | _::_,[],h=>h.elim
theorem leT_get:∀ {t t':List AV},leT t t'→∀ n,getT t' n= .one .junk∨getT t n=getT t' n
 | [],[],_,n=> .inl rfl
 | x::t,y::t',h,n=>by
   rw [leT_cons] at h
   cases n with
   | zero=>
     split at h
     · exact .inl rfl
     · rw [forceA_eq,forceA_eq] at h;obtain ⟨h,_⟩:=h;exact .inr h
   | succ n=>
     have:leT t t':=by
      split at h
      · exact h
      · rw [forceA_eq,forceA_eq] at h;obtain ⟨_,h⟩:=h;exact h
     exact leT_get this n
 | [],_::_,h,_=>h.elim
 | _::_,[],h,_=>h.elim
theorem leH_get {h:List (Nat×Blk)}:∀ {h':List (Nat×Blk)},leH h h'→∀ i b,look h' i=some b→look h i=some b
 | [],_,i,b,e=>by simp [look] at e
 | (j,c)::r,hl,i,b,e=>by
   rw [leH_cons] at hl
   split at hl
   · rename_i c' hc'
     rw [forceB_eq] at hl
     obtain ⟨h1,h2⟩:=hl
     rw [look_eq_beq] at e
     split at e
     · rename_i hj;subst hj;obtain rfl:=Option.some.inj e;rw [hc',h1]
     · exact leH_get h2 i b e
   · cases hl
theorem allIn_spec {h:List (Nat×Blk)}:∀ {l:List Nat},allIn h l=true→∀ m∈l,look h m≠none
 | [],_,m,hm=>by simp at hm
 | i::l,e,m,hm=>by
   simp only [allIn] at e
   split at e
   · rename_i hi
     rcases List.mem_cons.1 hm with rfl | hm
     · intro hn;rw [hn] at hi;simp [isSomeB] at hi
     · exact allIn_spec e m hm
   · cases e
theorem scopeT_spec {h:List (Nat×Blk)}:∀ {t:List AV},scopeT h t=true→∀ n,∀ m∈(getT t n).names,look h m≠none
 | [],_,n,m,hm=>by simp [getT,AV.names,L.names] at hm
 | v::t,e,n,m,hm=>by
   simp only [scopeT] at e
   split at e
   · rename_i hv
     cases n with
     | zero=>exact allIn_spec hv m hm
     | succ n=>exact scopeT_spec e n m hm
   · cases e
theorem scopeH_spec {h:List (Nat×Blk)}:∀ {r:List (Nat×Blk)},scopeH h r=true→∀ i b,look r i=some b→∀ m∈b.names,look h m≠none
 | [],_,i,b,e,_,_=>by simp [look] at e
 | (j,c)::r,e,i,b,hl,m,hm=>by
   simp only [scopeH] at e
   split at e
   · rename_i hv
     rw [look_eq_beq] at hl
     split at hl
     · obtain rfl:=Option.some.inj hl;exact allIn_spec hv m hm
     · exact scopeH_spec e i b hl m hm
   · cases e
theorem keepH_spec {nm:Nat} {g:List (Nat×Blk)}:∀ {l:List (Nat×Blk)},keepH nm g l=true→∀ i,i<nm→look l i≠none→look g i≠none
 | [],_,i,_,h=>by simp [look] at h
 | (j,c)::r,e,i,hi,h=>by
   simp only [keepH] at e
   rw [look_eq_beq] at h
   split at e
   · split at e
     · rename_i hs
       split at h
       · rename_i he;subst he
         cases hg:look g j with
         | none=>rw [hg] at hs;simp [isSomeB] at hs
         | some b=>simp
       · exact keepH_spec e i hi h
     · cases e
   · rename_i hj
     have hj':¬ j<nm:=by
      intro hlt
      have:=Nat.ble_eq_true_of_le hlt
      simp [Nat.blt,this] at hj
     split at h
     · rename_i he;subst he;exact absurd hi hj'
     · exact keepH_spec e i hi h
theorem RelS.le {ρ:Nat→Loc} {s t:S} {a:Act} {w:World} (R:RelS base w0 ρ s.abs a w) (h:Le base.nm s t):RelS base w0 ρ t.abs a w:=by
 have hh:∀ i,look t.h i≠none→look s.h i≠none:=fun i hi=>by
  cases hb:look t.h i with
  | none=>exact absurd hb hi
  | some b=>rw [leH_get h.heap i b hb];simp
 refine ⟨R.defers,R.size.trans (leT_len h.tmps),⟨fun n=> ?_,fun i b hb=>R.ctx.heap i b (leH_get h.heap i b hb),scopeT_spec h.names,scopeH_spec h.namesH⟩,
  fun i c hi=>R.low i c (leH_get h.heap i c hi),fun i j c d hi hj ho e=>R.inj i j c d (leH_get h.heap i c hi) (leH_get h.heap j d hj) ho e,R.below,R.base,
  fun m hm=>⟨(R.frame m hm).1,keepH_spec h.keep m (R.frame m hm).1 (R.frame m hm).2.1,(R.frame m hm).2.2⟩,R.far.to (Nat.le_refl _) (fun _ _ _=>rfl) fun i c h1 h2=> .inr ⟨i,c,leH_get h.heap i c h1,h2,rfl⟩⟩
 rcases leT_get h.tmps n with e | e
 · show RelA ρ (getT t.t n) _
   rw [e];exact fun hn=>absurd rfl hn
 · show RelA ρ (getT t.t n) _
   rw [← e];exact R.ctx.tmps n
theorem purgeAll_eq {mks:List Nat} {ρ:Nat→Loc} {a:Act} {w:World}:∀ (ops:List Oper) (s:S) (k:S→Prop),purgeAll base.nm mks ops s k→RelS base w0 ρ s.abs a w→∃ s',k s'∧RelS base w0 ρ s'.abs a w
 | [],s,k,h,R=>⟨s,h,R⟩
 | o::ops,s,k,h,R=>by
   have e:purgeAll base.nm mks (o::ops) s k=(match newNm mks o with
    | none=>purgeAll base.nm mks ops s k
    | some d=>withName base.nm d fun i=>match look s.h i with
      | none=>purgeAll base.nm mks ops s k
      | some _=>match isMakeS o with
        | true=>purgeAll base.nm mks ops s k
        | false=>purgeTK i s.t fun t=>purgeHK i s.h fun h=>purgeAll base.nm mks ops ⟨t,h⟩ k):=rfl
   rw [e] at h
   split at h
   · exact purgeAll_eq ops s k h R
   · rename_i d hd
     rw [withName_eq] at h
     split at h
     · exact purgeAll_eq ops s k h R
     · split at h
       · exact purgeAll_eq ops s k h R
       rw [purgeTK_eq] at h
       obtain ⟨l',h1,h2⟩:=purgeHK_eq (nameOf base.nm d) s.h fun h=>purgeAll base.nm mks ops ⟨s.t.map (AV.purge (nameOf base.nm d)),h⟩ k
       rw [h1] at h
       exact purgeAll_eq ops _ k h (R.purge _ (nameOf_le _ _) h2)
theorem freeK_eq {ρ:Nat→Loc} {a:Act} {w:World} {i:Nat} (hi:base.nm≤i) (s:S) (k:S→Prop) (h:freeK i s k) (R:RelS base w0 ρ s.abs a w):∃ s',k s'∧RelS base w0 ρ s'.abs a w:=by
 unfold freeK at h
 split at h
 · exact ⟨s,h,R⟩
 · split at h
   · exact ⟨s,h,R⟩
   · rw [purgeTK_eq] at h
     obtain ⟨l',h1,h2⟩:=purgeHK_eq i s.h fun h=>k ⟨s.t.map (AV.purge i),h⟩
     rw [h1] at h
     exact ⟨_,h,R.purge _ hi h2⟩
theorem purgeApp_eq {ρ:Nat→Loc} {a:Act} {w:World}:∀ (ops:List Oper) (s:S) (k:S→Prop),purgeApp base.nm ops s k→RelS base w0 ρ s.abs a w→∃ s',k s'∧RelS base w0 ρ s'.abs a w
 | [],s,k,h,R=>⟨s,h,R⟩
 | o::ops,s,k,h,R=>by
   have e:purgeApp base.nm (o::ops) s k=(match nilAppD o with
    | none=>purgeApp base.nm ops s k
    | some d=>withName base.nm d fun i=>withName base.nm (d + 1) fun j=>freeK i s fun s=>freeK j s fun s=>purgeApp base.nm ops s k):=rfl
   rw [e] at h
   split at h
   · exact purgeApp_eq ops s k h R
   · rw [withName_eq,withName_eq] at h
     obtain ⟨s1,h1,R1⟩:=freeK_eq (nameOf_le _ _) s _ h R
     obtain ⟨s2,h2,R2⟩:=freeK_eq (nameOf_le _ _) s1 _ h1 R1
     exact purgeApp_eq ops s2 k h2 R2
theorem least {p:Nat→Prop} (h:∃ n,p n):∃ n,p n∧∀ m,p m→n≤m:=by
 obtain ⟨n,hn⟩:=h
 induction n using Nat.strongRecOn with
 | _ n ih=>
   by_cases hm:∃ m,m<n∧p m
   · obtain ⟨m,hlt,hp⟩:=hm;exact ih m hlt hp
   · exact ⟨n,hn,fun m hp=>Nat.le_of_not_lt fun hlt=>hm ⟨m,hlt,hp⟩⟩
theorem stillF_spec:∀ {fps:List FP},stillF fps=true→∀ fp∈fps,fp.1=false
 | [],_,fp,h=>by simp at h
 | (true,_)::_,h,_,_=>by cases h
 | (false,l)::r,h,fp,hm=>by
   have h:stillF r=true:=h
   rcases List.mem_cons.1 hm with rfl | hm
   · rfl
   · exact stillF_spec h fp hm
theorem still_of (hC:CSound P G C) (hG:G w0) (hb0:base.b=w0.heap.size) (hnm:base.nm=C.nm) {ops:Array Oper} {Lq:Act→Prop} {w:World} :
 ∀ (l:List Oper) (fps:List FP) (s s':AS) (ρ:Nat→Loc) (a:Act),LexRun P (stillT C) ops.toList l fps s s'→(∀ fp∈fps,fp.1=false)→RelS base w0 ρ s a w→(∀ a',RelS base w0 ρ s' a' w→Lq a')→wpStill P ops w Lq l a
 | [],[],s,s',ρ,a,h,_,R,hq=>by obtain rfl:s'=s:=h;exact hq a R
 | o::l,fp::fps,s,s',ρ,a,⟨s1,hst,hrest⟩,hf,R,hq=>by
   have hfp:=hf fp (by simp)
   obtain ⟨dv,hw,hy,hs'⟩:=hst
   have go:∀ {u:Value} ,RelS base w0 ρ s1 (a.put o.dst u) w→wpStill P ops w Lq l (a.put o.dst u):=fun R'=>still_of hC hG hb0 hnm l fps s1 s' ρ _ hrest (fun fp h=>hf fp (by simp [h])) R' hq
   unfold wpStill
   unfold Yields at hy
   split at hy
   · exact hy.elim
   · rename_i hw'
     rw [wanted_of R hw']
     simp only [if_true]
     obtain ⟨c,r,hr,hc,hd⟩:=hy
     have hq':=req_ok R.ctx hr hc
     unfold Oper.still
     cases r with
     | val v=>
       obtain ⟨u,hrun,hrel,hn⟩:=hq'
       obtain ⟨-,rfl,rfl⟩:=hd
       rw [eff_none] at hs';subst hs'
       rw [hrun,Oper.stillUpon_value]
       exact go (R.put _ hrel hn)
     | rd i k=>
       obtain ⟨-,rfl,b,c',hb,hk,hcc⟩:=hd
       rw [eff_none] at hs';subst hs'
       obtain ⟨u,hrun,hrel,hn⟩:=hq'.2 b hb c' dv hk hcc
       rw [hrun,Oper.stillUpon_value]
       exact go (R.put _ hrel hn)
     | wr i k=>obtain ⟨rfl,_⟩:=hd;cases hfp
     | new b nv=>obtain ⟨d,i',_,_,rfl,_⟩:=hd;cases hfp
     | call f args=>rcases hd with ⟨_,_,c',e,_⟩ | ⟨_,_,_,_,_,_,e,_⟩<;>cases e
     | glob T g off=>
       obtain ⟨-,rfl,hv⟩:=hd
       rw [eff_none] at hs';subst hs'
       have hGw:G w:=hC.stable w0 w hG (hb0 ▸ R.below)
       obtain ⟨hvn,hl⟩:=hC.globs T g off dv hv
       obtain ⟨u,hu,hrel⟩:=hl w hGw
       rw [hq' u hu,Oper.stillUpon_value]
       exact go (R.put _ (hrel ρ) (by rw [hvn];simp))
     | look T ok g b key=>
       obtain ⟨-,rfl,c',hv,hc'⟩:=hd
       rw [eff_none] at hs';subst hs'
       have hGw:G w:=hC.stable w0 w hG (hb0 ▸ R.below)
       obtain ⟨hvn,hl⟩:=hC.looks T ok g b key c' dv hv hc'
       obtain ⟨k,hk,hrun⟩:=hq'
       obtain ⟨u,hu,hrel⟩:=hl w hGw ρ k hk
       rw [hrun u hu,Oper.stillUpon_value]
       exact go (R.put _ hrel (by rw [hvn];simp))
     | pick b x y=>
       obtain ⟨-,rfl,rfl⟩:=hd
       rw [eff_none] at hs';subst hs'
       obtain ⟨u,hrun,hrel,hn⟩:=hq'
       rw [hrun,Oper.stillUpon_value]
       exact go (R.put _ hrel hn)
     | app _ _ _ _ _=>
       obtain ⟨rfl,d,c',g,hdst,hsr0,hcc,hgl,⟨rfl,-,rfl,rfl⟩ | ⟨_,i',_,h1,_⟩⟩:=hd
       · rw [eff_none] at hs';subst hs'
         obtain ⟨T,tx,inf,zv,ty,vs,vx,hT,hi,hz,hsz,hzs,h0,hby,hsm,hrun,hvs,hsrc⟩:=hq'
         subst hsz
         have hvs:vs= .slice none 0 0:=hvs
         subst hvs
         obtain ⟨news,hsr,hseg⟩:=srcR_ok hsrc hsr0 hcc hgl
         rw [hrun _ _ (app_zero hT hi hsr),Oper.stillUpon_value]
         exact go (R.put _ (fun _=>rfl) (by simp [AV.names,L.names]))
       · rw [h1] at hfp;cases hfp
   · rename_i hw'
     rw [wanted_of R hw']
     simp only [Bool.false_eq_true,if_false]
     obtain ⟨-,rfl,rfl⟩:=hy
     rw [eff_none] at hs';subst hs'
     exact go (R.put _ (fun _=>rfl) (by simp [AV.names,L.names]))
 | [],_::_,_,_,_,_,h,_,_,_=>h.elim
 | _::_,[],_,_,_,_,h,_,_,_=>h.elim
def overA (a:Act) (g:Nat→Option Value):Act:={ a with tmps:=a.tmps.mapIdx fun t x=>(g t).getD x }
theorem over_size (a:Act) (g:Nat→Option Value):(overA a g).tmps.size=a.tmps.size:=by simp [overA]
theorem over_get (a:Act) (g:Nat→Option Value) (t:Nat):(overA a g).tmps[t]? =(a.tmps[t]?).map fun x=>(g t).getD x:=by simp [overA]
theorem act_ext {a b:Act} (h1:∀ t:Nat,a.tmps[t]? =b.tmps[t]?) (h2:a.defers=b.defers):a=b:=by
 obtain ⟨x,y⟩:=a
 obtain ⟨x',y'⟩:=b
 obtain rfl:y=y':=h2
 have:x=x':=Array.ext_getElem? h1
 rw [this]
theorem over_none (a:Act):overA a (fun _=>none)=a:=act_ext (fun t=>by rw [over_get];simp) rfl
theorem put_get (a:Act) (d:Nat) (v:Value) (t:Nat):(a.put (some d) v).tmps[t]? =if d=t then (a.tmps[t]?).map fun _=>v else a.tmps[t]? :=by
 simp only [Act.put,Array.getElem?_setIfInBounds]
 by_cases e:d=t
 · subst e
   by_cases hlt:d<a.tmps.size
   · simp [hlt]
   · simp [hlt]
 · simp [e]
theorem over_put {a:Act} {dst:Option Tmp} {v:Value} {g:Nat→Option Value} (h:∀ d,dst=some d→g d=none):overA (a.put dst v) g=(overA a g).put dst v:=by
 cases dst with
 | none=>rfl
 | some d=>
   refine act_ext (fun t=> ?_) rfl
   rw [over_get,put_get,put_get,over_get]
   by_cases e:d=t
   · subst e;rw [if_pos rfl,if_pos rfl,h d rfl];cases a.tmps[d]? <;>rfl
   · rw [if_neg e,if_neg e]
theorem over_drop {a:Act} {d:Nat} {u:Value} {g:Nat→Option Value} (h:d<a.tmps.size→g d=some u):overA (a.put (some d) u) (fun t=>if t=d then none else g t)=overA a g:=by
 refine act_ext (fun t=> ?_) rfl
 rw [over_get,over_get,put_get]
 by_cases e:d=t
 · subst e
   rw [if_pos rfl]
   simp only [if_true]
   by_cases hlt:d<a.tmps.size
   · rw [h hlt];simp [hlt]
   · simp [hlt]
 · rw [if_neg e]
   simp only [if_neg (Ne.symm e)]
theorem over_cat {a:Act} {d:Nat} {u:Value} {g:Nat→Option Value}:overA (a.put (some d) u) g=overA a (fun t=>match g t with | some x=>some x | none=>if t=d then some u else none):=by
 refine act_ext (fun t=> ?_) rfl
 rw [over_get,over_get,put_get]
 by_cases e:d=t
 · subst e
   rw [if_pos rfl]
   cases a.tmps[d]? with
   | none=>rfl
   | some x=>cases hg:g d<;>simp
 · rw [if_neg e]
   cases a.tmps[t]? with
   | none=>rfl
   | some x=>cases hg:g t<;>simp [Ne.symm e]
theorem over_exec {ops:Array Oper} {a:Act} {g:Nat→Option Value} {o:Oper} (hs:∀ cs b,o.op≠ .select cs b) (h:∀ d,g d≠none→d ∉ o.looksAt ops):execOp (overA a g).eval o=execOp a.eval o:=
 execOp_congr o hs fun x hx=>by
  cases x with
  | tmp d=>
    have hd:g d=none:=by
     cases hg:g d with
     | none=>rfl
     | some u=>
       have hm:d∈o.looksAt ops:=List.mem_append_left _ (List.mem_filterMap.2 ⟨.tmp d,by simpa using hx,rfl⟩)
       exact absurd hm (h d (by rw [hg];simp))
    show (overA a g).tmps.getD d undef=a.tmps.getD d undef
    rw [Array.getD_eq_getD_getElem?,Array.getD_eq_getD_getElem?,over_get,hd]
    cases a.tmps[d]? <;>rfl
  | _=>rfl
theorem wpOp_over {ops:Array Oper} {i:Nat} {o:Oper} {Q:Exit→Act→World→Prop} {K:Act→World→Prop} {a:Act} {w:World} {g:Nat→Option Value} (ho:ops[i]? =some o) (hg:o.guard=none) (hs:∀ cs b,o.op≠ .select cs b)
 (hp:∀ c a w,¬ Q (.panic c) a w) (hlo:¬ LetsOut Q) (h1:∀ d,g d≠none→d ∉ o.looksAt ops) (h2:∀ d,o.dst=some d→g d=none) (h:wpOp P ops Q i K (overA a g) w):wpOp P ops Q i (fun a' w'=>K (overA a' g) w') a w:=by
 unfold wpOp at *
 rw [ho] at h ⊢
 dsimp only at h ⊢
 have hw:∀ t:Array Value,Region.wanted o (yielded ops t)=true:=fun t=>by simp [Region.wanted,hg]
 rw [if_pos (hw _)] at h ⊢
 rcases h with h | ⟨-,h⟩
 · refine .inl ?_
   unfold Oper.wp at *
   rw [over_exec hs h1] at h
   generalize (execOp a.eval o).run P w=r at *
   cases r with
   | ok nx w'=>
     cases nx<;>simp only [Oper.upon] at h ⊢
     case value u=>rw [over_put h2];exact h
     case skip=>rw [over_put h2];exact h
     case defer d=>rw [over_put h2];exact h
     case enter f args=>
      refine Calls.mono h fun e w'' he=> ?_
      cases e with
      | returned u=>exact (by rw [over_put h2];exact he:K (overA (a.put o.dst u) g) w'')
      | panicked c=>exact absurd he (hp _ _ _)
      | outgrown=>exact absurd he hlo
     case row row args=>exact Rows.mono h fun u w'' he=>(by rw [over_put h2];exact he:K (overA (a.put o.dst u) g) w'')
   | halt x w'=>
     cases x<;>simp only [Oper.upon] at h ⊢
     case panic u=>exact absurd h (hp _ _ _)
 · exact absurd h hlo
theorem float_req {o:Oper} (hf:floatO o=true) {t:List AV} {c:Cond} {r:Req} (h:req P o.op t=some (c,r)):(∃ v,r= .val v)∨(∃ i k,r= .rd i k)∨∃ T g off,r= .glob T g off:=by
 unfold floatO at hf
 split at hf
 · split at hf
   · rename_i x ho
     rw [ho] at h;simp only [req,Option.some.injEq,Prod.mk.injEq] at h;exact .inl ⟨_,h.2.symm⟩
   · rename_i x ho
     rw [ho] at h;simp only [req] at h
     repeat' split at h
     all_goals first
      | (simp only [Option.some.injEq,Prod.mk.injEq] at h;exact .inl ⟨_,h.2.symm⟩)
      | cases h
   · rename_i T x f ho
     rw [ho] at h;simp only [req] at h
     repeat' split at h
     all_goals first
      | (simp only [Option.some.injEq,Prod.mk.injEq] at h;exact .inl ⟨_,h.2.symm⟩)
      | cases h
   · rename_i T x ho
     rw [ho] at h;simp only [req] at h
     repeat' split at h
     all_goals first
      | (simp only [Option.some.injEq,Prod.mk.injEq] at h;exact .inr (.inl ⟨_,_,h.2.symm⟩))
      | (simp only [Option.some.injEq,Prod.mk.injEq] at h;exact .inr (.inr ⟨_,_,_,h.2.symm⟩))
      | cases h
   · rename_i T x lo hi mx ho
     rw [ho] at h;simp only [req] at h
     repeat' split at h
     all_goals first
      | (simp only [Option.some.injEq,Prod.mk.injEq] at h;exact .inl ⟨_,h.2.symm⟩)
      | (simp only [Option.some.injEq,Prod.mk.injEq] at h;exact .inr (.inl ⟨_,_,h.2.symm⟩))
      | cases h
   · cases hf
 · cases hf
theorem float_shape {o:Oper} (hf:floatO o=true):o.guard=none∧∃ d,o.dst=some d:=by
 unfold floatO at hf
 split at hf
 · rename_i d hg hd;exact ⟨hg,d,hd⟩
 · cases hf
theorem float_step (hC:CSound P G C) (hG:G w0) (hb0:base.b=w0.heap.size) {o:Oper} (hf:floatO o=true) {all:List Oper} {fp:FP} {s s':AS} {ρ:Nat→Loc} {a:Act} {w:World} (h:Step P C all o fp s s') (R:RelS base w0 ρ s a w) :
 ∃ d dv u,o.dst=some d∧s'=s.put (some d) dv∧(execOp a.eval o).run P w= .ok (.value u) w∧RelA ρ dv u∧RelS base w0 ρ s' (a.put (some d) u) w:=by
 obtain ⟨hg,d,hd⟩:=float_shape hf
 obtain ⟨dv,hw,hy,hs'⟩:=h
 unfold Yields at hy
 rw [show wantA all o s.t=some true by simp [wantA,hg]] at hy
 obtain ⟨c,r,hr,hc,hy⟩:=hy
 have hq:=req_ok R.ctx hr hc
 rcases float_req hf hr with ⟨v,rfl⟩ | ⟨i,k,rfl⟩ | ⟨T,gg,off,rfl⟩
 · obtain ⟨u,hrun,hrel,hn⟩:=hq
   obtain ⟨-,rfl,rfl⟩:=hy
   rw [eff_none,hd] at hs';subst hs'
   exact ⟨d,_,u,hd,rfl,hrun,hrel,R.put _ hrel hn⟩
 · obtain ⟨-,rfl,b,c',hb,hk,hcc⟩:=hy
   rw [eff_none,hd] at hs';subst hs'
   obtain ⟨u,hrun,hrel,hn⟩:=hq.2 b hb c' dv hk hcc
   exact ⟨d,_,u,hd,rfl,hrun,hrel,R.put _ hrel hn⟩
 · obtain ⟨-,rfl,hv⟩:=hy
   rw [eff_none,hd] at hs';subst hs'
   have hGw:G w:=hC.stable w0 w hG (hb0 ▸ R.below)
   obtain ⟨hvn,hl⟩:=hC.globs T gg off dv hv
   obtain ⟨u,hu,hrel⟩:=hl w hGw
   exact ⟨d,_,u,hd,rfl,hq u hu,hrel ρ,R.put _ (hrel ρ) (by rw [hvn];simp)⟩
structure InnerOK (h:List Oper) (n:Nat):Prop where
 sel:Region.noSelect h.toArray=true
 pos:0<n
 lt:n<h.length
 bare:∀ (i:Nat) (o:Oper),h[i]? =some o→o.guard=none
 topo:∀ (i:Nat) (o:Oper),h[i]? =some o→∀ e∈o.after,Region.binds .any e=true→e.on<i∧e.on≠n
 sink:∀ i,0<i→i<n→∃ (j:Nat) (oj:Oper),i<j∧j≤n∧h[j]? =some oj∧∃ e∈oj.after,Region.binds .any e=true∧e.on=i
 flt:∀ (i:Nat) (o on:Oper),(i=0∨n<i)→h[i]? =some o→h[n]? =some on→floatO o=true∧o.apart h.toArray on=true∧(∀ d,o.dst=some d→d ∉ o.looksAt h.toArray) ∧
  ∀ (j:Nat) (oj:Oper),j≠i→j≠n→h[j]? =some oj→(∃ e∈oj.after,Region.binds .any e=true∧e.on=i)∨half h.toArray o oj=true
theorem half_spec {ops:Array Oper} {x y:Oper} (h:half ops x y=true):∀ d,x.dst=some d→d ∉ y.looksAt ops∧y.dst≠some d:=fun d hd=>by
 unfold half at h
 rw [hd] at h
 simpa using h
theorem innerB_ok {h:List Oper} {n:Nat} (hB:innerB h n=true):InnerOK h n:=by
 unfold innerB at hB
 simp only [Bool.and_eq_true,decide_eq_true_eq] at hB
 obtain ⟨h1,h2,h3,h4,h5,h6,h7⟩:=hB
 refine ⟨h1,h2,h3,fun i o ho=> ?_,fun i o ho e he hb=> ?_,fun i hi hin=> ?_,fun i o on hi ho hon=> ?_⟩
 · have:=List.all_eq_true.1 h4 o (List.mem_of_getElem? ho)
   simpa using this
 · have hlt:=(List.getElem?_eq_some_iff.1 ho).1
   have:=List.all_eq_true.1 h5 i (List.mem_range.2 hlt)
   rw [ho] at this
   have:=Array.all_eq_true'.1 this e he
   rw [hb] at this
   simpa using this
 · have:=List.all_eq_true.1 h6 i (List.mem_range.2 hin)
   simp only [Bool.or_eq_true] at this
   rcases this with h | h
   · have:i=0:=by simpa using h
     omega
   · obtain ⟨j,hj,hw⟩:=List.any_eq_true.1 h
     simp only [Bool.and_eq_true,decide_eq_true_eq] at hw
     obtain ⟨oj,hoj,e,he,hb,hon⟩:=Region.waitsFor_spec hw.2
     exact ⟨j,oj,hw.1,by have:=List.mem_range.1 hj;omega,by simpa using hoj,e,he,hb,hon⟩
 · have hlt:=(List.getElem?_eq_some_iff.1 ho).1
   have:=List.all_eq_true.1 h7 i (List.mem_range.2 hlt)
   rw [ho,hon] at this
   simp only [Bool.or_eq_true,Bool.and_eq_true] at this
   rcases this with h | ⟨q1,q2,q3,q4⟩
   · exfalso
     have h:(0<i∧i<n)∨i=n:=by simpa using h
     omega
   · refine ⟨q1,q2,fun d hd=> ?_,fun j oj hji hjn hoj=> ?_⟩
     · rw [hd] at q3;simpa using q3
     · have hjl:=(List.getElem?_eq_some_iff.1 hoj).1
       have:=List.all_eq_true.1 q4 j (List.mem_range.2 hjl)
       rw [hoj] at this
       simp only [Bool.or_eq_true] at this
       rcases this with h | h | h
       · exfalso
         have h:j=i∨j=n:=by simpa using h
         omega
       · obtain ⟨e,he,hb⟩:=Array.any_eq_true'.1 h
         simp only [Bool.and_eq_true] at hb
         exact .inl ⟨e,he,hb.1,by simpa using hb.2⟩
       · exact .inr h
theorem ghost_get:∀ {l:List Oper} {n i:Nat},(ghostAt l n)[i]? =if i=n then (l[i]?).map fun _=>ghostO else l[i]?
 | [],n,i=>by simp [ghostAt]
 | o::r,0,0=>by simp [ghostAt]
 | o::r,0,i + 1=>by simp [ghostAt]
 | o::r,n + 1,0=>by simp [ghostAt]
 | o::r,n + 1,i + 1=>by
   simp only [ghostAt,List.getElem?_cons_succ]
   rw [ghost_get]
   simp
theorem ghost_len:∀ {l:List Oper} {n:Nat},(ghostAt l n).length=l.length
 | [],_=>rfl
 | _::_,0=>rfl
 | _::_,n + 1=>congrArg (· + 1) ghost_len
def unl (N:Nat) (m:Array Bool):Nat:=(List.range N).countP fun i=> !m.getD i true
theorem unl_set {N i:Nat} {m:Array Bool} (hi:i<N) (hu:m.getD i true=false):unl N (m.setIfInBounds i true) + 1=unl N m:=by
 have hlt:i<m.size:=by
  rcases Nat.lt_or_ge i m.size with g | g
  · exact g
  · rw [getD_ge _ g] at hu;cases hu
 have hself:(m.setIfInBounds i true).getD i true=true:=by simp [hlt]
 have key:∀ N,(List.range N).countP (fun j=> !(m.setIfInBounds i true).getD j true) + (if i<N then 1 else 0)=(List.range N).countP fun j=> !m.getD j true:=fun N=>by
  induction N with
  | zero=>simp
  | succ N ih=>
    rw [List.range_succ,List.countP_append,List.countP_append]
    by_cases e:i=N
    · subst e
      rw [if_neg (Nat.lt_irrefl _)] at ih
      rw [if_pos (Nat.lt_succ_self _)]
      simp only [List.countP_cons,List.countP_nil,hself,hu]
      simp at ih ⊢
      omega
    · simp only [List.countP_cons,List.countP_nil,getD_set_ne true e]
      have e3:(if i<N + 1 then 1 else 0:Nat)=if i<N then 1 else 0:=by
       by_cases e2:i<N
       · rw [if_pos e2,if_pos (show i<N + 1 by omega)]
       · rw [if_neg e2,if_neg (show ¬ i<N + 1 by omega)]
      rw [e3]
      omega
 have:=key N
 rw [if_pos hi] at this
 exact this
theorem unl_zero {N i:Nat} {m:Array Bool} (h:unl N m=0) (hi:i<N):m.getD i true=true:=by
 have:=List.countP_eq_zero.1 h i (List.mem_range.2 hi)
 simpa using this
theorem least_ready {h:List Oper} (ht:∀ (i:Nat) (o:Oper),h[i]? =some o→∀ e∈o.after,Region.binds .any e=true→e.on<i) {m:Array Bool} (hm:m.size=h.length):∀ i,i<h.length→m.getD i true=false→∃ j,j∈Region.ready .any h.toArray m:=by
 intro i
 induction i using Nat.strongRecOn with
 | _ i ih=>
   intro hi hu
   by_cases hall:∀ e∈(h[i]).after,Region.binds .any e=true→m.getD e.on false=true
   · exact ⟨i,mem_ready.2 ⟨hu,h[i],by simp [hi],hall⟩⟩
   · simp only [Classical.not_forall] at hall
     obtain ⟨e,he,hb,hun⟩:=hall
     have hlt:=ht i h[i] (by simp [hi]) e he hb
     exact ih e.on hlt (by omega) (getD_in (by omega) (by simpa using hun))
section
variable {h : List Oper} {n : Nat}
theorem ghost_ready (I:InnerOK h n) {m:Array Bool} {i:Nat} (hi:i≠n):i∈Region.ready .any h.toArray m ↔ i∈Region.ready .any (ghostAt h n).toArray m:=by
 rw [mem_ready,mem_ready]
 simp only [List.getElem?_toArray]
 rw [ghost_get,if_neg hi]
theorem ghost_topo (I:InnerOK h n):∀ (i:Nat) (o:Oper),(ghostAt h n)[i]? =some o→∀ e∈o.after,Region.binds .any e=true→e.on<i:=fun i o ho e he hb=>by
 rw [ghost_get] at ho
 split at ho
 · cases hx:h[i]? with
   | none=>rw [hx] at ho;cases ho
   | some x=>
     rw [hx] at ho
     obtain rfl:ghostO=o:=by simpa using ho
     simp [ghostO] at he
 · exact (I.topo i o ho e he hb).1
theorem inner_wait (I:InnerOK h n) {m:Array Bool} (hm:m.size=h.length) (hc:ClosedL h.toArray m) (hr:n∈Region.ready .any h.toArray m):∀ d i,n - i=d→0<i→i<n→m.getD i true=true:=by
 intro d
 induction d using Nat.strongRecOn with
 | _ d ih=>
   intro i hd hi hin
   obtain ⟨j,oj,h1,h2,hoj,e,he,hb,hon⟩:=I.sink i hi hin
   have key:∀ q:m.getD e.on false=true,m.getD i true=true:=fun q=>by rw [hon] at q;exact getD_tt q
   by_cases hjn:j=n
   · subst hjn
     obtain ⟨_,o,ho,hall⟩:=mem_ready.1 hr
     obtain rfl:oj=o:=Option.some.inj (hoj.symm.trans (by simpa using ho))
     exact key (hall e he hb)
   · have:=ih (n - j) (by omega) j rfl (by omega) (by omega)
     exact key (hc j oj (by simpa using hoj) this e he hb)
theorem inner_finish (I:InnerOK h n) (hC:CSound P G C) (hG:G w0) (hb0:base.b=w0.heap.size) {FT:Nat→FP} {sH:AS}:∀ (fuel:Nat) (m:Array Bool) (s:AS),AnyA P C (ghostAt h n).toArray FT (fun x=>x=sH) fuel m s→m.size=h.length →
 (∀ i,i<h.length→m.getD i true=false→i=n∨i=0∨n<i)→∀ (ρ:Nat→Loc) (a:Act) (w:World),RelS base w0 ρ s a w →
 ∃ g:Nat→Option Value,RelS base w0 ρ sH (overA a g) w∧(∀ d u,g d=some u→∃ (i:Nat) (o:Oper),i≠n∧m.getD i true=false∧h[i]? =some o∧o.dst=some d) ∧
   ∀ (i:Nat) (o:Oper) (d:Nat),i≠n→m.getD i true=false→h[i]? =some o→o.dst=some d→g d≠none:=by
 have hdone:∀ {m:Array Bool} {s:AS},m.size=h.length→Region.ready .any (ghostAt h n).toArray m=[]→s=sH→∀ (ρ:Nat→Loc) (a:Act) (w:World),RelS base w0 ρ s a w →
  ∃ g:Nat→Option Value,RelS base w0 ρ sH (overA a g) w∧(∀ d u,g d=some u→∃ (i:Nat) (o:Oper),i≠n∧m.getD i true=false∧h[i]? =some o∧o.dst=some d) ∧
    ∀ (i:Nat) (o:Oper) (d:Nat),i≠n→m.getD i true=false→h[i]? =some o→o.dst=some d→g d≠none:=fun {m s} hm hr hs ρ a w R=>by
  subst hs
  refine ⟨fun _=>none,by rw [over_none];exact R,fun d u e=>(by cases e),fun i o d _ hu ho _=> ?_⟩
  obtain ⟨j,hj⟩:=least_ready (ghost_topo I) (by rw [ghost_len];exact hm) i (by rw [ghost_len];exact (List.getElem?_eq_some_iff.1 ho).1) hu
  rw [hr] at hj;cases hj
 intro fuel
 induction fuel with
 | zero=>intro m s hA hm _ ρ a w R;exact hdone hm hA.1 hA.2 ρ a w R
 | succ f ih=>
   intro m s hA hm hun ρ a w R
   cases hr:Region.ready .any (ghostAt h n).toArray m with
   | nil=>exact hdone hm hr (hA.1 hr) ρ a w R
   | cons j r=>
     have hj:j∈Region.ready .any (ghostAt h n).toArray m:=by rw [hr];simp
     obtain ⟨hju,o,ho,_⟩:=mem_ready.1 hj
     have ho':(ghostAt h n)[j]? =some o:=by simpa using ho
     have hjl:j<h.length:=by rw [← ghost_len (n:=n)];exact (List.getElem?_eq_some_iff.1 ho').1
     obtain ⟨s',hst,hA'⟩:=hA.2 j hj o ho
     have hsub:∀ i,(m.setIfInBounds j true).getD i true=false→m.getD i true=false∧i≠j:=fun i hi=>by
      by_cases e:j=i
      · subst e;simp [show j<m.size by omega] at hi
      · rw [getD_set_ne _ e] at hi;exact ⟨hi,Ne.symm e⟩
     have hun':∀ i,i<h.length→(m.setIfInBounds j true).getD i true=false→i=n∨i=0∨n<i:=fun i hi hu=>hun i hi (hsub i hu).1
     by_cases hjn:j=n
     · subst hjn
       rw [ghost_get,if_pos rfl] at ho'
       obtain rfl:ghostO=o:=by
        cases hx:h[j]? with
        | none=>rw [hx] at ho';cases ho'
        | some x=>rw [hx] at ho';simpa using ho'
       have hss:s'=s:=by
        obtain ⟨dv,hw,hy,hs'⟩:=hst
        unfold Yields at hy
        rw [show wantA (ghostAt h j).toArray.toList ghostO s.t=some true from rfl] at hy
        obtain ⟨c,r,hr2,hc,hy⟩:=hy
        simp only [ghostO,req,Option.some.injEq,Prod.mk.injEq] at hr2
        obtain ⟨-,rfl⟩:=hr2
        obtain ⟨-,rfl,-⟩:=hy
        rw [hs',eff_none];rfl
       subst hss
       obtain ⟨g,g1,g2,g3⟩:=ih _ s' hA' (by simpa using hm) hun' ρ a w R
       exact ⟨g,g1,fun d u e=>by
        obtain ⟨i,o,q1,q2,q3⟩:=g2 d u e
        exact ⟨i,o,q1,(hsub i q2).1,q3⟩,fun i o d hi hu ho hd=>g3 i o d hi (by rw [getD_set_ne _ (Ne.symm hi)];exact hu) ho hd⟩
     · rw [ghost_get,if_neg hjn] at ho'
       obtain ⟨hf,-⟩:=I.flt j o (h[n]'I.lt) ((hun j hjl hju).resolve_left hjn) ho' (by simp [I.lt])
       obtain ⟨d,dv,u,hd,rfl,hrun,hrel,R'⟩:=float_step hC hG hb0 hf hst R
       obtain ⟨g,g1,g2,g3⟩:=ih _ _ hA' (by simpa using hm) hun' ρ _ w R'
       rw [over_cat] at g1
       refine ⟨_,g1,fun t x e=> ?_,fun i oi t hi hu hoi ht=> ?_⟩
       · cases hg:g t with
         | some y=>
           obtain ⟨i,oi,q1,q2,q3⟩:=g2 t y hg
           exact ⟨i,oi,q1,(hsub i q2).1,q3⟩
         | none=>
           simp only [hg] at e
           split at e
           · rename_i e2;exact ⟨j,o,hjn,hju,ho',by rw [e2];exact hd⟩
           · cases e
       · by_cases e:i=j
         · subst e
           obtain rfl:o=oi:=Option.some.inj (ho'.symm.trans hoi)
           obtain rfl:d=t:=Option.some.inj (hd.symm.trans ht)
           cases hg:g d with
           | some y=>simp
           | none=>simp
         · have:=g3 i oi t hi (by rw [getD_set_ne _ (Ne.symm e)];exact hu) hoi ht
           cases hg:g t with
           | some y=>simp
           | none=>exact absurd hg this
theorem exactL_eq {ρ:Nat→Loc} {l:L} (h:exactL l=true):l≠ .junk∧isSeg l=false:=by
 cases l with
 | junk=>exact Bool.noConfusion (show false=true from h)
 | seg z n f=>exact Bool.noConfusion (show false=true from h)
 | _=>exact ⟨fun e=>(by cases e),rfl⟩
theorem exactLs_eq {ρ:Nat→Loc}:∀ {ls:List L} {us vs:List Value},exactLs ls=true→RelLs ρ ls us→RelLs ρ ls vs→us=vs
 | [],us,vs,_,h1,h2=>by
   have h1:us=[]:=h1
   have h2:vs=[]:=h2
   rw [h1,h2]
 | l::r,us,vs,h,h1,h2=>by
   simp only [exactLs] at h
   split at h
   · rename_i hl
     obtain ⟨q1,q2⟩:=exactL_eq (ρ:=ρ) hl
     obtain ⟨v1,w1,rfl,k1,t1⟩:=(relLs_cons q2).1 h1
     obtain ⟨v2,w2,rfl,k2,t2⟩:=(relLs_cons q2).1 h2
     rw [k1 q1,k2 q1,exactLs_eq h t1 t2]
   · cases h
theorem exactA_eq {ρ:Nat→Loc} {x:AV} {u v:Value} (h:exactA x=true) (h1:RelA ρ x u) (h2:RelA ρ x v):u=v:=by
 cases x with
 | one l=>
   have q:=(exactL_eq (ρ:=ρ) (show exactL l=true from h)).1
   have h1:RelL ρ l u:=h1
   have h2:RelL ρ l v:=h2
   rw [h1 q,h2 q]
 | agg ls=>
   obtain ⟨c1,rfl,k1⟩:=h1
   obtain ⟨c2,rfl,k2⟩:=h2
   have:=exactLs_eq (show exactLs ls=true from h) k1 k2
   exact congrArg Value.agg (Array.ext' this)
 | tup vs=>cases h
def Again (P:Program) (C:Table) (h:List Oper) (n:Nat) (s:AS):Prop:=∀ (i:Nat) (o:Oper),(i=0∨n<i)→h[i]? =some o→∃ all fp d,o.dst=some d∧exactA (getT s.t d)=true∧Step P C all o fp s s
theorem inner_tail (I:InnerOK h n) (hC:CSound P G C) (hG:G w0) (hb0:base.b=w0.heap.size) {Q:Exit→Act→World→Prop} {R:Act→World→Prop} (hre:∀ a w,R a w→∃ s1 ρ,RelS base w0 ρ s1 a w∧Again P C h n s1)
 (hfin:∀ a w,R a w→Q .normal a w):∀ (fuel:Nat) (m:Array Bool) (a:Act) (w:World) (g:Nat→Option Value),m.size=h.length→unl h.length m≤fuel→(∀ i,i<h.length→m.getD i true=false→i≠n∧(i=0∨n<i)) →
 (∀ d u,g d=some u→∃ (i:Nat) (o:Oper),m.getD i true=false∧h[i]? =some o∧o.dst=some d)→(∀ (i:Nat) (o:Oper) (d:Nat),m.getD i true=false→h[i]? =some o→o.dst=some d→g d≠none) →
 R (overA a g) w→wpAny P .any h.toArray Q fuel m a w:=by
 intro fuel
 induction fuel with
 | zero=>
   intro m a w g hm hu hun g1 g2 hR
   have hz:unl h.length m=0:=by omega
   refine ⟨List.eq_nil_iff_forall_not_mem.2 fun i hi=> ?_,?_⟩
   · obtain ⟨q1,o,q2,_⟩:=mem_ready.1 hi
     have:=unl_zero hz (i:=i) (by have:=(Array.getElem?_eq_some_iff.1 q2).1;simpa using this)
     rw [q1] at this;cases this
   · have:g=fun _=>none:=funext fun d=>by
      cases hg:g d with
      | none=>rfl
      | some u=>
        obtain ⟨i,o,q1,q2,_⟩:=g1 d u hg
        have:=unl_zero hz (List.getElem?_eq_some_iff.1 q2).1
        rw [q1] at this;cases this
     rw [this,over_none] at hR
     exact hfin _ _ hR
 | succ f ih=>
   intro m a w g hm hu hun g1 g2 hR
   refine ⟨fun e=> ?_,fun i hi=> ?_⟩
   · have:g=fun _=>none:=funext fun d=>by
      cases hg:g d with
      | none=>rfl
      | some u=>
        obtain ⟨i,o,q1,q2,_⟩:=g1 d u hg
        obtain ⟨j,hj⟩:=least_ready (fun i o ho e he hb=>(I.topo i o ho e he hb).1) hm i (List.getElem?_eq_some_iff.1 q2).1 q1
        rw [e] at hj;cases hj
     rw [this,over_none] at hR
     exact hfin _ _ hR
   · obtain ⟨q1,o,q2,hall⟩:=mem_ready.1 hi
     have ho:h[i]? =some o:=by simpa using q2
     have hil:=(List.getElem?_eq_some_iff.1 ho).1
     obtain ⟨hin,hi0⟩:=hun i hil q1
     obtain ⟨s1,ρ,R1,hag⟩:=hre _ _ hR
     obtain ⟨all,fp,d,hd,hlj,hst⟩:=hag i o hi0 ho
     obtain ⟨hf,-,hself,hoth⟩:=I.flt i o (h[n]'I.lt) hi0 ho (by simp [I.lt])
     obtain ⟨d',dv,u,hd',hs,hrun,hrel,-⟩:=float_step hC hG hb0 hf hst R1
     obtain rfl:d=d':=Option.some.inj (hd.symm.trans hd')
     have hlooks:∀ t,g t≠none→t ∉ o.looksAt h.toArray:=fun t ht=>by
      obtain ⟨x,hx⟩:=Option.ne_none_iff_exists'.1 ht
      obtain ⟨j,oj,r1,r2,r3⟩:=g1 t x hx
      have hjl:=(List.getElem?_eq_some_iff.1 r2).1
      by_cases e:j=i
      · subst e
        obtain rfl:oj=o:=Option.some.inj (r2.symm.trans ho)
        exact hself t r3
      · obtain ⟨hjn,hj0⟩:=hun j hjl r1
        obtain ⟨-,-,-,hothj⟩:=I.flt j oj (h[n]'I.lt) hj0 r2 (by simp [I.lt])
        rcases hothj i o (Ne.symm e) hin ho with ⟨ee,he,hb,hon⟩ | hap
        · have:=hall ee he hb
          rw [hon,getD_both r1] at this;cases this
        · exact (half_spec hap t r3).1
     have hsel:=Region.noSelect_spec I.sel
     rw [over_exec (fun cs b=>hsel i o cs b q2) hlooks] at hrun
     have hg:d<a.tmps.size→g d=some u:=fun hlt=>by
      obtain ⟨x,hx⟩:=Option.ne_none_iff_exists'.1 (g2 i o d q1 ho hd)
      have e1:getT s1.t d=dv:=by
       have hlen:d<s1.t.length:=by rw [← R1.size,over_size];exact hlt
       have h2:getT s1.t d=getT (s1.put (some d) dv).t d:=congrArg (fun z=>getT z.t d) hs
       rw [h2]
       simp [AS.put,getT_set,hlen]
      have e2:RelA ρ (getT s1.t d) ((overA a g).tmps.getD d undef):=R1.ctx.tmps d
      rw [← e1] at hrel
      have e3:(overA a g).tmps.getD d undef=u:=exactA_eq hlj e2 hrel
      rw [Array.getD_eq_getD_getElem?,over_get,hx] at e3
      have:a.tmps[d]? =some a.tmps[d]:=Array.getElem?_eq_getElem hlt
      rw [this] at e3
      rw [hx]
      exact congrArg some e3
     have hK:wpAny P .any h.toArray Q f (m.setIfInBounds i true) (a.put (some d) u) w:=by
      refine ih _ _ w (fun t=>if t=d then none else g t) (by simpa using hm) (by have:=unl_set hil q1;omega) (fun j hj hju=> ?_) (fun t x e=> ?_) (fun j oj t hju hoj ht=> ?_) (by rw [over_drop hg];exact hR)
      · by_cases e:i=j
        · subst e;simp [show i<m.size by omega] at hju
        · rw [getD_set_ne _ e] at hju;exact hun j hj hju
      · by_cases e2:t=d
        · simp only [e2,if_true] at e;cases e
        · simp only [if_neg e2] at e
          obtain ⟨j,oj,r1,r2,r3⟩:=g1 t x e
          refine ⟨j,oj,?_,r2,r3⟩
          by_cases e3:i=j
          · subst e3
            obtain rfl:oj=o:=Option.some.inj (r2.symm.trans ho)
            exact absurd (Option.some.inj (r3.symm.trans hd)) e2
          · rw [getD_set_ne _ e3];exact r1
      · by_cases e:i=j
        · subst e;simp [show i<m.size by omega] at hju
        · rw [getD_set_ne _ e] at hju
          have h3:=g2 j oj t hju hoj ht
          by_cases e2:t=d
          · exfalso
            subst e2
            have hjl:=(List.getElem?_eq_some_iff.1 hoj).1
            obtain ⟨hjn,hj0⟩:=hun j hjl hju
            obtain ⟨hfj,-,-,hothj⟩:=I.flt j oj (h[n]'I.lt) hj0 hoj (by simp [I.lt])
            rcases hothj i o e hin ho with ⟨ee,he,hb,hon⟩ | hap
            · have:=hall ee he hb
              rw [hon,getD_both hju] at this;cases this
            · exact (half_spec hap t ht).2 hd
          · simp only [if_neg e2];exact h3
     have hgd:=I.bare i o ho
     unfold wpOp
     rw [q2]
     dsimp only
     rw [if_pos (by simp [Region.wanted,hgd])]
     refine .inl ?_
     unfold Oper.wp
     rw [hrun,Oper.upon_value,hd]
     exact hK
theorem any_inner (I:InnerOK h n) (hC:CSound P G C) (hG:G w0) (hb0:base.b=w0.heap.size) (hnm:base.nm=C.nm) {FT:Nat→FP} {sH:AS} {Q:Exit→Act→World→Prop} {R:Act→World→Prop} (hp:∀ c a w,¬ Q (.panic c) a w) (hlo:¬ LetsOut Q)
 (hR:∀ ρ a w,RelS base w0 ρ sH a w→wpOp P h.toArray Q n R a w) (hre:∀ a w,R a w→∃ s1 ρ,RelS base w0 ρ s1 a w∧Again P C h n s1) (hfin:∀ a w,R a w→Q .normal a w) :
 ∀ (fuel:Nat) (m:Array Bool) (s:AS) (ρ:Nat→Loc) (a:Act) (w:World),AnyA P C (ghostAt h n).toArray FT (fun x=>x=sH) fuel m s→m.size=h.length→unl h.length m≤fuel→m.getD n true=false→ClosedL h.toArray m →
   RelS base w0 ρ s a w→wpAny P .any h.toArray Q fuel m a w:=by
 have hsel:=Region.noSelect_spec I.sel
 intro fuel
 induction fuel with
 | zero=>
   intro m s ρ a w hA hm hu hn hc Rl
   have:=unl_zero (show unl h.length m=0 by omega) I.lt
   rw [hn] at this;cases this
 | succ f ih=>
   intro m s ρ a w hA hm hu hn hc Rl
   refine ⟨fun e=> ?_,fun i hi=> ?_⟩
   · obtain ⟨j,hj⟩:=least_ready (fun i o ho e he hb=>(I.topo i o ho e he hb).1) hm n I.lt hn
     rw [e] at hj;cases hj
   · obtain ⟨q1,o,q2,hall⟩:=mem_ready.1 hi
     have ho:h[i]? =some o:=by simpa using q2
     have hil:=(List.getElem?_eq_some_iff.1 ho).1
     by_cases hin:i=n
     · subst hin
       have hun:∀ j,j<h.length→m.getD j true=false→j=i∨j=0∨i<j:=fun j hj hju=>by
        by_cases e1:j=i
        · exact .inl e1
        · by_cases e2:j=0
          · exact .inr (.inl e2)
          · by_cases e3:j<i
            · have:=inner_wait I hm hc hi (i - j) j rfl (by omega) e3
              rw [hju] at this;cases this
            · exact .inr (.inr (by omega))
       obtain ⟨g,g1,g2,g3⟩:=inner_finish I hC hG hb0 (f + 1) m s hA hm hun ρ a w Rl
       have h1:=hR ρ _ w g1
       have hlooks:∀ t,g t≠none→t ∉ o.looksAt h.toArray∧o.dst≠some t:=fun t ht=>by
        obtain ⟨x,hx⟩:=Option.ne_none_iff_exists'.1 ht
        obtain ⟨j,oj,r0,r1,r2,r3⟩:=g2 t x hx
        obtain ⟨-,hap,-⟩:=I.flt j oj o ((hun j (List.getElem?_eq_some_iff.1 r2).1 r1).resolve_left r0) r2 ho
        exact ⟨(Oper.apart_spec hap).1 t r3,(Oper.apart_spec hap).2.1 t r3⟩
       have h2:=wpOp_over q2 (I.bare i o ho) (fun cs b=>hsel i o cs b q2) hp hlo (fun t ht=>(hlooks t ht).1) (fun t ht=>by
        cases hg:g t with
        | none=>rfl
        | some x=>exact absurd ht (hlooks t (by rw [hg];simp)).2) h1
       refine wpOp_mono (fun a' w' h'=> ?_) h2
       refine inner_tail I hC hG hb0 hre hfin f _ a' w' g (by simpa using hm) (by have:=unl_set hil q1;omega) (fun j hj hju=> ?_) (fun t x e=> ?_) (fun j oj t hju hoj ht=> ?_) h'
       · by_cases e:i=j
         · subst e;simp [show i<m.size by omega] at hju
         · rw [getD_set_ne _ e] at hju
           exact ⟨Ne.symm e,(hun j hj hju).resolve_left (Ne.symm e)⟩
       · obtain ⟨j,oj,r0,r1,r2,r3⟩:=g2 t x e
         exact ⟨j,oj,by rw [getD_set_ne _ (Ne.symm r0)];exact r1,r2,r3⟩
       · by_cases e:i=j
         · subst e;simp [show i<m.size by omega] at hju
         · rw [getD_set_ne _ e] at hju
           exact g3 j oj t (Ne.symm e) hju hoj ht
     · have hgi:=(ghost_ready I hin).1 hi
       have hog:(ghostAt h n).toArray[i]? =some o:=by simp only [List.getElem?_toArray];rw [ghost_get,if_neg hin];exact ho
       obtain ⟨s',hst,hA'⟩:=hA.2 i hgi o hog
       have hst':Step P C h.toArray.toList o (FT i) s s':=by
        obtain ⟨dv,hw,hy,hs'⟩:=hst
        refine ⟨dv,hw,?_,hs'⟩
        unfold Yields at hy ⊢
        have hgd:=I.bare i o ho
        rw [show wantA (ghostAt h n).toArray.toList o s.t=some true by simp [wantA,hgd]] at hy
        rw [show wantA h.toArray.toList o s.t=some true by simp [wantA,hgd]]
        exact hy
       have:=sim_step (Q:=Q) (K:=wpAny P .any h.toArray Q f (m.setIfInBounds i true)) hC hG hb0 hnm hst' Rl (fun ρ' a' w' R'=>ih _ s' ρ' a' w' hA' (by simpa using hm) (by have:=unl_set hil q1;omega) (by rw [getD_set_ne _ hin];exact hn) (hc.set hi) R')
       unfold wpOp
       rw [q2]
       dsimp only
       split
       · rename_i hw;rw [if_pos hw] at this;exact .inl this
       · rename_i hw;rw [if_neg hw] at this;exact this
end
theorem getD_replicate_true {m j:Nat} (h:j<m):(Array.replicate m false).getD j true=false:=by simp [h]
theorem reK_eq {C:Table} {s:S} {q:Prop} (hno:∀ f tp args h K,¬ C.inl f tp args h K) (hna:C.app= .no):∀ (l:List Oper),(∀ o∈l,o.guard=none)→reK P C l s q→q∧∀ o∈l,∃ fp d,o.dst=some d∧exactA (getT s.abs.t d)=true∧Step P C [] o fp s.abs s.abs
 | [],_,h=>⟨h,by simp⟩
 | o::r,hg,h=>by
   have h:(match o.dst with
    | some d=>match exactA (getT s.t d) with
      | true=>opK P C [] o s fun _ s2=>Both (Ob (s2=s)) (reK P C r s q)
      | false=>Stuck "re"
    | none=>Stuck "re"):=h
   split at h
   · rename_i d hd
     split at h
     · rename_i hj
       obtain ⟨fp,s1,h1,-,⟨⟨h3⟩,h4⟩⟩:=opK_eq (ops:=[]) (by simp [wantA,hg o (by simp)]) (KnOK.nil _) (fun _ f args _ _ _ K=>hno f _ args _ K) (fun _ _ _ _ _ _ _=>hna) h
       subst h3
       obtain ⟨q1,q2⟩:=reK_eq hno hna r (fun x hx=>hg x (by simp [hx])) h4
       refine ⟨q1,fun x hx=> ?_⟩
       rcases List.mem_cons.1 hx with rfl | hx
       · exact ⟨fp,d,hd,hj,h1⟩
       · exact q2 x hx
     · cases h
   · cases h
theorem inner_sound (hC:CSound P G C) (hG:G w0) (hb0:base.b=w0.heap.size) (hnm:base.nm=C.nm) (hm:P.follows .mixedOrders=true) {id:Nat} {ops:Array Oper} {s:S} {Qa:Ex→S→Prop} {n q:Nat}
 (h:Both (Ob (Region.preF ops q=true)) (Both (Ob (innerB (ops.toList.take q) n=true)) (Both (Ob (Region.lexB .any (ghostAt (ops.toList.take q) n).toArray=true))
     (runOps P (noInl C) (ghostAt (ops.toList.take q) n) (ghostAt (ops.toList.take q) n) [] s fun fps s=>match okFrom 0 (ghostAt (ops.toList.take q) n) fps with
       | true=>runOps P C ops.toList ((ops.toList.drop n).take 1) [] s fun _ s=>reK P (noInl C) (floatsL (ops.toList.take q) n) s (runOps P C ops.toList (ops.toList.drop q) [] s fun _ s=>Qa .normal s)
       | false=>Stuck "order"))))
 {ρ:Nat→Loc} {a:Act} {w:World} (R:RelS base w0 ρ s.abs a w):(Code.region id ops true).wp P (Post base w0 Qa) a w:=by
 obtain ⟨⟨hB⟩,⟨hI⟩,⟨hL⟩,h⟩:=h
 have I:=innerB_ok hI
 have hp:∀ c a w,¬ Post base w0 Qa (.panic c) a w:=fun _ _ _ ⟨x,_,_,e,_⟩=>by cases x<;>cases e
 have hlo:¬ LetsOut (Post base w0 Qa):=fun ⟨_,_,x,_,_,e,_⟩=>by cases x<;>cases e
 obtain ⟨fps,sH,hrun,hlen,h⟩:=runOps_eq (C:=noInl C) (fun _ _ _ _ _ h=>by cases h) rfl (ghostAt (ops.toList.take q) n) [] s _ (KnOK.nil _) h
 split at h
 · rename_i hok
   have hB':Region.preF ops.toList.toArray q=true:=by simpa using hB
   simp only [Region.lexB,Bool.and_eq_true] at hL
   have hC':CSound P G (noInl C):=hC.inl' (InlOK.none P G) .no C.nm C.tp [] C.mks
   have hany:=any_lex (P:=P) (C:=noInl C) (ops:=(ghostAt (ops.toList.take q) n).toArray) (FT:=fun j=>(fps[j]?).getD (false,[])) (K:=fun x=>x=sH.abs) (ghostAt (ops.toList.take q) n) fps 0 (Array.replicate (ghostAt (ops.toList.take q) n).toArray.size false) s.abs sH.abs
    (fun j=>by simp) (fun j hj=>by
      have hj':j<fps.length:=by rw [hlen];exact hj
      simp [List.getElem?_eq_getElem hj'])
    (fun j _ hj=>getD_replicate_true (by simpa using hj)) (fun j hj=>by omega) ClosedL.start (by simpa using hL.2) hok (by simpa using hrun) rfl
   have hgl:(ghostAt (ops.toList.take q) n).length=(ops.toList.take q).length:=ghost_len
   have hn:=I.lt
   have hnl:n<ops.toList.length:=by
    have:=List.length_take_le' q ops.toList
    omega
   have hnq:n<q:=by
    have:=hn
    rw [List.length_take] at this
    omega
   have hget:(ops.toList.take q)[n]? =ops.toList[n]? :=by rw [List.getElem?_take,if_pos hnq]
   have hd1:(ops.toList.drop n).take 1=[ops.toList[n]]:=by rw [List.drop_eq_getElem_cons hnl];rfl
   rw [hd1] at h
   have hbare:=I.bare n ops.toList[n] (by rw [hget];simp [hnl])
   have hgo:=wp_region_pre (P:=P) (id:=id) (Q:=Post base w0 Qa) hp hlo (a:=a) (w:=w) (l:=ops.toList) q hm hB'
    (any_inner (h:=ops.toList.take q) (n:=n) I hC' hG hb0 hnm (Q:=thenQ _) (R:=fun a' w'=>∃ s1 ρ',RelS base w0 ρ' s1 a' w'∧Again P (noInl C) (ops.toList.take q) n s1∧wpList P ops.toList.toArray (Post base w0 Qa) (ops.toList.drop q) a' w')
      (fun _ _ _ h=>h.elim) (fun ⟨_,_,h⟩=>h.elim)
      (fun ρ' a' w' R'=>by
        have h1:=runOps_wp (ops:=ops.toList.toArray) (Q:=fun e a2 w2=>match e with | .normal=>(∃ s1 ρ',RelS base w0 ρ' s1 a2 w2∧Again P (noInl C) (ops.toList.take q) n s1∧wpList P ops.toList.toArray (Post base w0 Qa) (ops.toList.drop q) a2 w2) | _=>False) hC hG hb0 hnm [ops.toList[n]] [] sH _ ρ' a' w' (KnOK.nil _) (by simpa using h) R' fun fps2 s2 ρ2 a2 w2 h2 R2=>by
         obtain ⟨h3,h4⟩:=reK_eq (C:=noInl C) (fun _ _ _ _ _ h=>by cases h) rfl (floatsL (ops.toList.take q) n) (fun o ho=>by
          simp only [floatsL,List.mem_append] at ho
          rcases ho with ho | ho
          · obtain ⟨i,hi⟩:=List.mem_iff_getElem?.1 (List.mem_of_mem_take ho)
            exact I.bare i o hi
          · obtain ⟨i,hi⟩:=List.mem_iff_getElem?.1 (List.mem_of_mem_drop ho)
            exact I.bare i o hi) h2
         refine ⟨s2.abs,ρ2,R2,fun i o hi ho=> ?_,runOps_wp (ops:=ops.toList.toArray) hC hG hb0 hnm (ops.toList.drop q) [] s2 _ ρ2 a2 w2 (KnOK.nil _) (by simpa using h3) R2 fun fps s' ρ a w h R'=>⟨.normal,s',ρ,rfl,h,R'⟩⟩
         have hmem:o∈floatsL (ops.toList.take q) n:=by
          simp only [floatsL,List.mem_append]
          rcases hi with rfl | hi
          · refine .inl ?_
            refine List.mem_of_getElem? (i:=0) ?_
            rw [List.getElem?_take,if_pos (by omega)];exact ho
          · refine .inr (List.mem_of_getElem? (i:=i - (n + 1)) ?_)
            rw [List.getElem?_drop,show n + 1 + (i - (n + 1))=i by omega];exact ho
         obtain ⟨fp,d,q1,q2,q4⟩:=h4 o hmem
         exact ⟨[],fp,d,q1,q2,q4⟩
        have h2:wpOp P ops.toList.toArray (fun e a2 w2=>match e with | .normal=>(∃ s1 ρ',RelS base w0 ρ' s1 a2 w2∧Again P (noInl C) (ops.toList.take q) n s1∧wpList P ops.toList.toArray (Post base w0 Qa) (ops.toList.drop q) a2 w2) | _=>False) n (fun a2 w2=>∃ s1 ρ',RelS base w0 ρ' s1 a2 w2∧Again P (noInl C) (ops.toList.take q) n s1∧wpList P ops.toList.toArray (Post base w0 Qa) (ops.toList.drop q) a2 w2) a' w':=by
         unfold wpOp
         simp only [List.getElem?_toArray,List.getElem?_eq_getElem hnl]
         exact h1
        unfold wpOp at h2 ⊢
        have e1:(ops.toList.take q).toArray[n]? =some ops.toList[n]:=by simp only [List.getElem?_toArray];rw [hget];simp [hnl]
        have e2:ops.toList.toArray[n]? =some ops.toList[n]:=by simp [hnl]
        rw [e1];rw [e2] at h2
        dsimp only at h2 ⊢
        have hwt:∀ t:Nat→Option Bool,Region.wanted ops.toList[n] t=true:=fun t=>by unfold Region.wanted;rw [hbare]
        rw [if_pos (hwt _)] at h2 ⊢
        rcases h2 with h2 | ⟨-,a3,w3,h2⟩
        · exact .inl (Oper.wp_monoQ (fun _ _ h=>h) (fun _ _ _ h=>h.elim) (fun ⟨_,_,h⟩=>h.elim) h2)
        · exact h2.elim)
      (fun a' w' ⟨s1,ρ',q1,q2,_⟩=>⟨s1,ρ',q1,q2⟩) (fun a' w' ⟨_,_,_,_,q3⟩=>q3)
      _ _ s.abs ρ a _ (by
        have h3:=hany
        rw [show (ghostAt (ops.toList.take q) n).toArray.size=(ops.toList.take q).length from hgl,hgl] at h3
        exact h3) (by simp) (by
        have:∀ N (m:Array Bool),unl N m≤N:=fun N m=>by
         have:=List.countP_le_length (p:=fun i=> !m.getD i true) (l:=List.range N)
         rw [List.length_range] at this
         exact this
        simpa using this (ops.toList.take q).length (Array.replicate (ops.toList.take q).toArray.size false)) (getD_replicate_true (by simpa using hn)) ClosedL.start (R.later ((Below.refl _ _).drew)))
   simpa using hgo
 · cases h
theorem region_sound (hC:CSound P G C) (hG:G w0) (hb0:base.b=w0.heap.size) (hnm:base.nm=C.nm) (hm:P.follows .mixedOrders=true) {id:Nat} {ops:Array Oper} {draw:Bool} {s:S} {Qa:Ex→S→Prop}
 (h:E P C (.region id ops draw) s Qa) {ρ:Nat→Loc} {a:Act} {w:World} (R:RelS base w0 ρ s.abs a w):(Code.region id ops draw).wp P (Post base w0 Qa) a w:=by
 have h:purgeAll C.nm C.mks ops.toList s fun s=>purgeApp C.nm ops.toList s fun s=>match (generalizing:=false) draw with
  | false=>runOps P C ops.toList ops.toList [] s fun _ s=>Qa .normal s
  | true=>match (generalizing:=false) headOf C.im ops.toList with
    | none=>runOps P (noInl C) ops.toList ops.toList [] s fun fps s=>match (generalizing:=false) okFrom 0 ops.toList fps with
      | true=>Both (Ob (Region.lexB .any ops=true)) (Qa .normal s)
      | false=>Stuck "order"
    | some n=>match (generalizing:=false) innerOf ops.toList n with
     | some q=>Both (Ob (Region.preF ops q=true)) (Both (Ob (innerB (ops.toList.take q) n=true)) (Both (Ob (Region.lexB .any (ghostAt (ops.toList.take q) n).toArray=true))
       (runOps P (noInl C) (ghostAt (ops.toList.take q) n) (ghostAt (ops.toList.take q) n) [] s fun fps s=>match (generalizing:=false) okFrom 0 (ghostAt (ops.toList.take q) n) fps with
         | true=>runOps P C ops.toList ((ops.toList.drop n).take 1) [] s fun _ s=>reK P (noInl C) (floatsL (ops.toList.take q) n) s (runOps P C ops.toList (ops.toList.drop q) [] s fun _ s=>Qa .normal s)
         | false=>Stuck "order")))
     | none=>match (generalizing:=false) plainT (ops.toList.take n) with
     | false=>Both (Ob (Region.preF ops n=true)) (runOps P (noInl C) (ops.toList.take n) (ops.toList.take n) [] s fun fps s=>match (generalizing:=false) okFrom 0 (ops.toList.take n) fps with
       | true=>runOps P C ops.toList (ops.toList.drop n) [] s fun _ s=>Qa .normal s
       | false=>Stuck "order")
     | true=>match (generalizing:=false) midT (ops.toList.drop (n + 1)) with
      | false=>Both (Ob (Region.tailB ops n=true)) (runOps P (stillT C) ops.toList (ops.toList.take n) [] s fun fps s=>match (generalizing:=false) stillF fps with
        | true=>runOps P C ops.toList (ops.toList.drop n) [] s fun _ s=>Qa .normal s
        | false=>Stuck "still")
      | true=>Both (Ob (Region.midB .any ops n=true)) (runOps P (stillT C) ops.toList (ops.toList.take n) [] s fun fps s=>match (generalizing:=false) stillF fps with
        | true=>runOps P C ops.toList ((ops.toList.drop n).take 1) [] s fun _ s=>runOps P (noInl C) ops.toList (ops.toList.drop (n + 1)) [] s fun fps s=>match (generalizing:=false) okFrom (n + 1) (ops.toList.drop (n + 1)) fps with
          | true=>Qa .normal s
          | false=>Stuck "order"
        | false=>Stuck "still"):=h
 rw [← hnm] at h
 obtain ⟨s,h,R⟩:=purgeAll_eq (a:=a) (w:=w) ops.toList s _ h R
 obtain ⟨s,h,R⟩:=purgeApp_eq (a:=a) (w:=w) ops.toList s _ h R
 cases draw with
 | false=>
   exact wp_region_list (runOps_wp hC hG hb0 hnm ops.toList [] s _ ρ a w (KnOK.nil _) h R fun fps s' ρ a w h R'=>⟨.normal,s',ρ,rfl,h,R'⟩)
 | true=>
  cases hhd:headOf C.im ops.toList with
  | some n=>
   rw [hhd] at h
   dsimp only at h
   cases hin:innerOf ops.toList n with
   | some q=>
     rw [hin] at h
     dsimp only at h
     exact inner_sound hC hG hb0 hnm hm h R
   | none=>
   rw [hin] at h
   dsimp only at h
   cases hpl:plainT (ops.toList.take n) with
   | false=>
     rw [hpl] at h
     dsimp only at h
     obtain ⟨⟨hB⟩,h⟩:=h
     obtain ⟨fps,s',hrun,hlen,h⟩:=runOps_eq (C:=noInl C) (fun _ _ _ _ _ h=>by cases h) rfl (ops.toList.take n) [] s _ (KnOK.nil _) h
     split at h
     · rename_i hok
       have hB':Region.preF ops.toList.toArray n=true:=by simpa using hB
       have hlx:Region.lexB .any (ops.toList.take n).toArray=true:=preF_lex hB'
       simp only [Region.lexB,Bool.and_eq_true] at hlx
       have hany:=any_lex (P:=P) (C:=noInl C) (ops:=(ops.toList.take n).toArray) (FT:=fun j=>(fps[j]?).getD (false,[])) (K:=fun x=>x=s'.abs) (ops.toList.take n) fps 0 (Array.replicate (ops.toList.take n).toArray.size false) s.abs s'.abs
        (fun j=>by simp) (fun j hj=>by
          have hj':j<fps.length:=by rw [hlen];exact hj
          simp [List.getElem?_eq_getElem hj'])
        (fun j _ hj=>getD_replicate_true (by simpa using hj)) (fun j hj=>by omega) ClosedL.start (by simpa using hlx.2) hok (by simpa using hrun) rfl
       have hgo:=wp_region_pre (P:=P) (id:=id) (Q:=Post base w0 Qa) (fun _ _ _ ⟨x,_,_,e,_⟩=>by cases x<;>cases e) (fun ⟨_,_,x,_,_,e,_⟩=>by cases x<;>cases e) (a:=a) (w:=w) (l:=ops.toList) n hm hB'
        (any_sound (C:=noInl C) (hC.inl' (InlOK.none P G) .no C.nm C.tp [] C.mks) hG hb0 hnm (Q:=thenQ _) (K:=fun x=>x=s'.abs) (fun s1 ρ a w hs R'=>runOps_wp (ops:=ops.toList.toArray) hC hG hb0 hnm (ops.toList.drop n) [] s' _ ρ a w (KnOK.nil _) (by simpa using h) (by rw [← hs];exact R') fun fps s' ρ a w h R'=>⟨.normal,s',ρ,rfl,h,R'⟩) _ _ s.abs ρ a _ (by simpa using hany) (R.later ((Below.refl _ _).drew)))
       simpa using hgo
     · cases h
   | true=>
   rw [hpl] at h
   dsimp only at h
   cases hmt:midT (ops.toList.drop (n + 1)) with
   | true=>
     rw [hmt] at h
     obtain ⟨⟨hB⟩,h⟩:=h
     obtain ⟨fps,s',hrun,hlen,h⟩:=runOps_eq (C:=stillT C) (fun _ _ _ _ _ h=>by cases h) rfl (ops.toList.take n) [] s _ (KnOK.nil _) h
     split at h
     · rename_i hst
       have hB':Region.midB .any ops.toList.toArray n=true:=by simpa using hB
       have hn:n<ops.toList.length:=by
        simp only [Region.midB,Bool.and_eq_true,decide_eq_true_eq] at hB'
        simpa using hB'.1.1.1.2
       have hlx:Region.lexFrom .any ops (ops.size - (n + 1)) (n + 1) (doneTo (n + 1) ops.size)=true:=by
        simp only [Region.midB,Bool.and_eq_true] at hB
        exact hB.2
       have hd1:(ops.toList.drop n).take 1=[ops.toList[n]]:=by rw [List.drop_eq_getElem_cons hn];rfl
       have hgo:=wp_region_midA (P:=P) (id:=id) (Q:=Post base w0 Qa) (a:=a) (w:=w) (l:=ops.toList) n hm hB' (still_of (ops:=ops.toList.toArray) hC hG hb0 hnm (ops.toList.take n) fps s.abs s'.abs ρ a (by simpa using hrun) (stillF_spec hst) (R.later ((Below.refl _ _).drew))
        fun a' R'=>by
         have h1:=runOps_wp (ops:=ops.toList.toArray) (Q:=fun e a2 w2=>match e with | .normal=>wpAny P .any ops.toList.toArray (Post base w0 Qa) (ops.toList.toArray.size - (n + 1)) (doneTo (n + 1) ops.toList.toArray.size) a2 w2 | e=>Post base w0 Qa e a2 w2) hC hG hb0 hnm ((ops.toList.drop n).take 1) [] s' _ ρ a' _ (KnOK.nil _) (by simpa using h) R' (fun _ s2 ρ2 a2 w2 h2 R2=>by
          obtain ⟨fps2,s3,hrun2,hlen2,h3⟩:=runOps_eq (C:=noInl C) (fun _ _ _ _ _ h=>by cases h) rfl (ops.toList.drop (n + 1)) [] s2 _ (KnOK.nil _) h2
          split at h3
          · rename_i hok
            have hlen':fps2.length=ops.size - (n + 1):=by simpa using hlen2
            have hany:=any_lex (P:=P) (C:=noInl C) (ops:=ops) (FT:=fun j=>(fps2[j - (n + 1)]?).getD (false,[])) (K:=fun x=>x=s3.abs) (ops.toList.drop (n + 1)) fps2 (n + 1) (doneTo (n + 1) ops.size) s2.abs s3.abs
             (fun j=>by simp [List.getElem?_drop]) (fun j hj=>by
               have hj':j<fps2.length:=by rw [hlen2];exact hj
               simp [hj'])
             (fun j hj hjs=>doneTo_un hj hjs) (fun j hj=>doneTo_do _ hj) (midB_closed hB) (by simpa using hlx) hok hrun2 rfl
            have:=any_sound (C:=noInl C) (hC.inl' (InlOK.none P G) .no C.nm C.tp [] C.mks) hG hb0 hnm (K:=fun x=>x=s3.abs) (Q:=Post base w0 Qa) (fun s1 ρ a w hs R'=>⟨.normal,s3,ρ,rfl,h3,by rw [← hs];exact R'⟩) _ _ s2.abs ρ2 a2 w2 (by simpa using hany) R2
            simpa using this
          · cases h3)
         rw [hd1] at h1
         unfold wpOp
         simp only [List.getElem?_toArray,List.getElem?_eq_getElem hn]
         exact h1)
       simpa using hgo
     · cases h
   | false=>
   rw [hmt] at h
   obtain ⟨⟨hB⟩,h⟩:=h
   obtain ⟨fps,s',hrun,hlen,h⟩:=runOps_eq (C:=stillT C) (fun _ _ _ _ _ h=>by cases h) rfl (ops.toList.take n) [] s _ (KnOK.nil _) h
   split at h
   · rename_i hst
     have hB':Region.tailB ops.toList.toArray n=true:=by simpa using hB
     have hgo:=wp_region_tail (P:=P) (id:=id) (Q:=Post base w0 Qa) (fun _ _ _ ⟨x,_,_,e,_⟩=>by cases x<;>cases e) (fun ⟨_,_,x,_,_,e,_⟩=>by cases x<;>cases e) (a:=a) (w:=w) (l:=ops.toList) n hm hB' (still_of (ops:=ops.toList.toArray) hC hG hb0 hnm (ops.toList.take n) fps s.abs s'.abs ρ a (by simpa using hrun) (stillF_spec hst) (R.later ((Below.refl _ _).drew))
      fun a' R'=>runOps_wp (ops:=ops.toList.toArray) hC hG hb0 hnm (ops.toList.drop n) [] s' _ ρ a' _ (KnOK.nil _) (by simpa using h) R' fun fps s' ρ a w h R'=>⟨.normal,s',ρ,rfl,h,R'⟩)
     simpa using hgo
   · cases h
  | none=>
   rw [hhd] at h
   obtain ⟨fps,s',hrun,hlen,h⟩:=runOps_eq (C:=noInl C) (fun _ _ _ _ _ h=>by cases h) rfl ops.toList [] s _ (KnOK.nil _) h
   split at h
   · rename_i hok
     obtain ⟨⟨hB⟩,h⟩:=h
     simp only [Region.lexB,Bool.and_eq_true] at hB
     have hlen':fps.length=ops.size:=by simpa using hlen
     have hany:=any_lex (P:=P) (C:=noInl C) (ops:=ops) (FT:=fun j=>(fps[j]?).getD (false,[])) (K:=fun x=>x=s'.abs) ops.toList fps 0 (Array.replicate ops.size false) s.abs s'.abs
      (fun j=>by simp) (fun j hj=>by
        have hj':j<fps.length:=by simp at hj;omega
        simp [List.getElem?_eq_getElem hj'])
      (fun j _ hj=>by simp [hj]) (fun j hj=>by omega) ClosedL.start (by simpa using hB.2) hok hrun rfl
     refine wp_region_any hm (any_sound (C:=noInl C) (hC.inl' (InlOK.none P G) .no C.nm C.tp [] C.mks) hG hb0 hnm (fun s1 ρ a w hs R'=>⟨.normal,s',ρ,rfl,h,by rw [← hs];exact R'⟩) _ _ s.abs ρ a _ (by simpa using hany) ?_)
     exact R.later ((Below.refl _ _).drew)
   · cases h
theorem purge_none {mks:List Nat}:∀ (l:List Oper) (nm:Nat) (s:S) (k:S→Prop),(∀ o∈l,newNm mks o=none)→k s→purgeAll nm mks l s k
 | [],_,_,_,_,h=>h
 | o::l,nm,s,k,hn,h=>by
   have e:purgeAll nm mks (o::l) s k=(match newNm mks o with
    | none=>purgeAll nm mks l s k
    | some d=>withName nm d fun i=>match look s.h i with
      | none=>purgeAll nm mks l s k
      | some _=>match isMakeS o with
        | true=>purgeAll nm mks l s k
        | false=>purgeTK i s.t fun t=>purgeHK i s.h fun h=>purgeAll nm mks l ⟨t,h⟩ k):=rfl
   rw [e,hn o (by simp)]
   exact purge_none l nm s k (fun o ho=>hn o (by simp [ho])) h
theorem purgeApp_none:∀ (l:List Oper) (nm:Nat) (s:S) (k:S→Prop),(∀ o∈l,nilAppD o=none)→k s→purgeApp nm l s k
 | [],_,_,_,_,h=>h
 | o::l,nm,s,k,hn,h=>by
   have e:purgeApp nm (o::l) s k=(match nilAppD o with
    | none=>purgeApp nm l s k
    | some d=>withName nm d fun i=>withName nm (d + 1) fun j=>freeK i s fun s=>freeK j s fun s=>purgeApp nm l s k):=rfl
   rw [e,hn o (by simp)]
   exact purgeApp_none l nm s k (fun o ho=>hn o (by simp [ho])) h
theorem okDst_spec {mks cs:List Nat} {o:Oper} (h:okDst mks cs o=true):(newNm mks o=none∧nilAppD o=none)∧∃ d,o.dst=some d∧(∀ x y z,o.op≠ .pick x y z):=by
 unfold okDst at h
 split at h
 · cases h
 · rename_i d hd
   refine ⟨⟨?_,?_⟩,d,hd,?_⟩
   · unfold newNm newName
     split at h<;>(try split at h)<;>(try split at h)<;>simp_all
   · split at h<;>(try split at h)<;>(try split at h)<;>first | assumption | (simp_all [nilAppD];done)
   · intro x y z e
     rw [e] at h
     cases h
theorem pureOps_run {cs:List Nat}:∀ (l:List Oper) (s:S) (k:List FP→S→Prop) (no:Prop),pureOps P C cs l s k no→no∨∃ fps s',k fps s'∧s'.h=s.h∧s'.t.length=s.t.length ∧
 (∀ n,n ∉ dstsOps l→getT s'.t n=getT s.t n)∧(∀ o∈l,newNm C.mks o=none∧nilAppD o=none)∧∀ (C':Table),C'.fn=C.fn→∀ (all:List Oper) (kw:List (Nat×Bool)) (k':List FP→S→Prop),k' fps s'→runOps P C' all l kw s k'
 | [],s,k,no,h=> .inr ⟨[],s,h,rfl,rfl,fun _ _=>rfl,by simp,fun _ _ _ _ _ h=>h⟩
 | o::l,s,k,no,h=>by
   have e:pureOps P C cs (o::l) s k no=(match o.guard with
    | some _=>no
    | none=>match okDst C.mks cs o with
      | false=>no
      | true=>match req P o.op s.t with
        | some (.t,.val v)=>putK s o.dst v fun s=>pureOps P C cs l s (fun fps=>k ((false,[])::fps)) no
        | some (.t,.rd i f)=>match look s.h i with
          | some b=>match f b with
            | some (.t,v)=>putK s o.dst v fun s=>pureOps P C cs l s (fun fps=>k ((false,[i])::fps)) no
            | _=>no
          | none=>no
        | some (.t,.call f args)=>match C.fn f args (blks (look s.h) (dnames (look s.h) args)) with
          | some (.t,v)=>putK s o.dst v fun s=>pureOps P C cs l s (fun fps=>k ((false,dnames (look s.h) args)::fps)) no
          | _=>no
        | _=>no):=rfl
   rw [e] at h
   split at h
   · exact .inl h
   rename_i hg
   split at h
   · exact .inl h
   rename_i hok
   obtain ⟨hnew,d,hd,hpick⟩:=okDst_spec hok
   have fin:∀ (fp:FP) (v:AV),pureOps P C cs l ⟨s.t.set d v,s.h⟩ (fun fps=>k (fp::fps)) no →
    (∀ (C':Table),C'.fn=C.fn→∀ (kw:List (Nat×Bool)) (kk:FP→S→Prop),kk fp ⟨s.t.set d v,s.h⟩→opK P C' kw o s kk) →
    no∨∃ fps s',k fps s'∧s'.h=s.h∧s'.t.length=s.t.length ∧
   (∀ n,n ∉ dstsOps (o::l)→getT s'.t n=getT s.t n)∧(∀ o'∈o::l,newNm C.mks o'=none∧nilAppD o'=none)∧∀ (C':Table),C'.fn=C.fn→∀ (all:List Oper) (kw:List (Nat×Bool)) (k':List FP→S→Prop),k' fps s'→runOps P C' all (o::l) kw s k':=by
     intro fp v h hop
     rcases pureOps_run l _ _ no h with h | ⟨fps,s',h1,h2,h3,h4,h5,h6⟩
     · exact .inl h
     refine .inr ⟨fp::fps,s',h1,h2,by simpa using h3,fun n hn=> ?_,?_,fun C' hC' all kw k' hk'=> ?_⟩
     · simp only [dstsOps,hd,List.mem_cons,not_or] at hn
       rw [h4 n hn.2,getT_set,if_neg (fun e=>hn.1 e.1)]
     · intro o' ho'
       rcases List.mem_cons.1 ho' with rfl | ho'
       · exact hnew
       · exact h5 o' ho'
     · rw [runOps_cons,hg]
       refine hop C' hC' kw _ ?_
       rw [forceK_eq]
       exact h6 C' hC' all _ _ hk'
   split at h
   · rename_i v hr
     simp only [putK,nxK_eq,hd,forceA_eq,setK_eq] at h
     refine fin _ v h fun C' hC' kw kk hkk=> ?_
     unfold opK
     rw [hr]
     simp only [withC,doK,putK,nxK_eq,hd,forceA_eq,setK_eq]
     exact hkk
   · rename_i i f hr
     split at h
     · rename_i b hb
       split at h
       · rename_i v hv
         simp only [putK,nxK_eq,hd,forceA_eq,setK_eq] at h
         refine fin _ v h fun C' hC' kw kk hkk=> ?_
         unfold opK
         rw [hr]
         simp only [withC,doK,hb,hv,putK,nxK_eq,hd,forceA_eq,setK_eq]
         exact hkk
       · exact .inl h
     · exact .inl h
   · rename_i f args hr
     split at h
     · rename_i v hv
       simp only [putK,nxK_eq,hd,forceA_eq,setK_eq] at h
       refine fin _ v h fun C' hC' kw kk hkk=> ?_
       unfold opK
       rw [hr]
       simp only [withC,doK,hC',hv,forceNs_eq,putK,nxK_eq,hd,forceA_eq,setK_eq]
       exact hkk
     · exact .inl h
   · exact .inl h
theorem junkK_eq:∀ (ds:List Nat) (t:List AV) (k:List AV→Prop),junkK ds t k→∃ t',k t'∧t'.length=t.length∧∀ n,getT t' n=if n∈ds then .one .junk else getT t n
 | [],t,k,h=>⟨t,h,rfl,fun n=>by simp⟩
 | d::ds,t,k,h=>by
   have e:junkK (d::ds) t k=setK t d (.one .junk) fun t=>junkK ds t k:=rfl
   rw [e,setK_eq] at h
   obtain ⟨t',h1,h2,h3⟩:=junkK_eq ds _ k h
   refine ⟨t',h1,by simpa using h2,fun n=> ?_⟩
   rw [h3,getT_set]
   by_cases hn:n∈ds
   · simp [hn]
   · by_cases hd:n=d
     · subst hd
       simp only [hn,if_false,List.mem_cons,true_or,if_true]
       by_cases hl:n<t.length
       · simp [hl]
       · have:getT t n= .one .junk:=by
          have key:∀ (t:List AV) (n:Nat),t.length≤n→getT t n= .one .junk:=by
           intro t
           induction t with
           | nil=>intro n _;rfl
           | cons x t ih=>intro n hn;cases n with
             | zero=>simp at hn
             | succ n=>exact ih n (by simpa using hn)
          exact key t n (by omega)
         simp [hl,this]
     · simp [hn,hd]
theorem getT_lt {t:List AV} {n:Nat} {b:Bool} (h:getT t n= .one (.bool b)):n<t.length:=by
 by_cases hl:n<t.length
 · exact hl
 · exfalso
   have key:∀ (t:List AV) (n:Nat),t.length≤n→getT t n= .one .junk:=by
    intro t
    induction t with
    | nil=>intro n _;rfl
    | cons x t ih=>intro n hn;cases n with
      | zero=>simp at hn
      | succ n=>exact ih n (by simpa using hn)
   rw [key t n (by omega)] at h
   cases h
theorem joinK_eq {ds:List Nat} {c:Nat} {v:Bool} {s:S} {k:S→Prop} (hc:c<s.t.length) (h:joinK ds c v s k):∃ s',k s'∧s'.h=s.h∧s'.t.length=s.t.length∧getT s'.t c= .one (.bool v) ∧
 ∀ n,n≠c→getT s'.t n=if n∈ds then .one .junk else getT s.t n:=by
 obtain ⟨t',h1,h2,h3⟩:=junkK_eq ds s.t _ h
 rw [setK_eq] at h1
 refine ⟨_,h1,rfl,by simpa using h2,?_,fun n hn=> ?_⟩
 · rw [getT_set,if_pos ⟨rfl,by omega⟩]
 · rw [getT_set,if_neg (fun e=>hn e.1),h3]
theorem RelS.weak {ρ:Nat→Loc} {s t:S} {a:Act} {w:World} (R:RelS base w0 ρ s.abs a w) (hh:t.h=s.h) (hl:t.t.length=s.t.length) (hg:∀ n,getT t.t n= .one .junk∨getT t.t n=getT s.t n):RelS base w0 ρ t.abs a w:=by
 have e:t.abs.h=s.abs.h:=by show look t.h=look s.h;rw [hh]
 refine ⟨R.defers,R.size.trans hl.symm,⟨fun n=> ?_,by rw [e];exact R.ctx.heap,fun n m hm=> ?_,by rw [e];exact R.ctx.namesH⟩,by rw [e];exact R.low,by rw [e];exact R.inj,R.below,R.base,by rw [e];exact R.frame,by rw [e];exact R.far⟩
 · rcases hg n with h | h
   · show RelA ρ (getT t.t n) _
     rw [h];exact fun hn=>absurd rfl hn
   · show RelA ρ (getT t.t n) _
     rw [h];exact R.ctx.tmps n
 · rw [e]
   rcases hg n with h | h
   · have hm:m∈(getT t.t n).names:=hm
     rw [h] at hm;simp [AV.names,L.names] at hm
   · have hm:m∈(getT t.t n).names:=hm
     rw [h] at hm;exact R.ctx.names n m hm
def Pure (P:Program) (base:Bs) (w0:World) (x:Code) (s s':S):Prop:=s'.h=s.h∧s'.t.length=s.t.length∧(∀ n,n ∉ dstsOf x→getT s'.t n=getT s.t n) ∧
 ∀ ρ a w,RelS base w0 ρ s.abs a w→x.wp P (Post base w0 fun e s1=>e= .normal∧s1=s') a w
theorem join_pure {n:Nat} {p q v:Bool} {s s1 s2:S} {y:Code} (hp:getT s.t n= .one (.bool p)) (h1:Pure P base w0 y s s1) (hq:getT s1.t n= .one (.bool q))
 (h2:s2.h=s.h) (h3:s2.t.length=s.t.length) (h4:getT s2.t n= .one (.bool v)) (h5:∀ m,m≠n→getT s2.t m=if m∈dstsOf y then .one .junk else getT s.t m) :
 (v=p→∀ ρ a w,RelS base w0 ρ s.abs a w→RelS base w0 ρ s2.abs a w)∧(v=q→∀ ρ a w,RelS base w0 ρ s1.abs a w→RelS base w0 ρ s2.abs a w):=by
 constructor
 · rintro rfl ρ a w R
   refine R.weak h2 h3 fun m=> ?_
   by_cases hm:m=n
   · subst hm;exact .inr (by rw [h4,hp])
   · rw [h5 m hm]
     split
     · exact .inl rfl
     · exact .inr rfl
 · rintro rfl ρ a w R
   refine R.weak (h2.trans h1.1.symm) (h3.trans h1.2.1.symm) fun m=> ?_
   by_cases hm:m=n
   · subst hm;exact .inr (by rw [h4,hq])
   · rw [h5 m hm]
     split
     · exact .inl rfl
     · rename_i hn
       exact .inr (h1.2.2.1 m hn).symm
theorem isSkip_eq {x:Code} (h:isSkip x=true):x= .skip:=by cases x<;>simp [isSkip] at h<;>rfl
theorem join_or {n:Nat} {p:Bool} {s:S} {y:Code} {K:S→Prop} {no:Prop} {cs:List Nat} (hp:getT s.t n= .one (.bool p))
 (ih:pureE P C cs y s (fun s'=>match getT s'.t n with | .one (.bool q)=>joinK (dstsOf y) n (p||q) s K | _=>no) no →
   no∨∃ s1,(match getT s1.t n with | .one (.bool q)=>joinK (dstsOf y) n (p||q) s K | _=>no)∧Pure P base w0 y s s1)
 (h:pureE P C cs y s (fun s'=>match getT s'.t n with | .one (.bool q)=>joinK (dstsOf y) n (p||q) s K | _=>no) no) :
 no∨∃ s2,K s2∧Pure P base w0 (.cond (.tmp n) .skip y) s s2:=by
 rcases ih h with h | ⟨s1,h,h1⟩
 · exact .inl h
 split at h
 · rename_i q hq
   obtain ⟨s2,h2,h3,h4,h5,h6⟩:=joinK_eq (getT_lt hp) h
   obtain ⟨j1,j2⟩:=join_pure hp h1 hq h3 h4 h5 h6
   refine .inr ⟨s2,h2,h3,h4,fun m hm=> ?_,fun ρ a w R=> ?_⟩
   · have hm':m ∉ dstsOf y:=by simpa [dstsOf] using hm
     by_cases e:m=n
     · subst e
       have:=h1.2.2.1 m hm'
       rw [hq,hp] at this
       rw [h5,hp]
       obtain rfl:q=p:=by simpa using this
       simp
     · rw [h6 m e,if_neg hm']
   · refine wp_cond_split (ev_bool R.ctx (show ev s.abs.t (.tmp n)= .one (.bool p) from hp)) (fun e=> ?_) (fun e=> ?_)
     · exact wp_skip ⟨.normal,s2,ρ,rfl,⟨rfl,rfl⟩,j1 (by simp [e]) ρ a w R⟩
     · refine Code.wp_mono ?_ (h1.2.2.2 ρ a w R)
       rintro e' a' w' ⟨x',s',ρ',rfl,⟨rfl,rfl⟩,R'⟩
       exact ⟨.normal,s2,ρ',rfl,⟨rfl,rfl⟩,j2 (by simp [e]) ρ' a' w' R'⟩
 · exact .inl h
theorem join_and {n:Nat} {p:Bool} {s:S} {y:Code} {K:S→Prop} {no:Prop} {cs:List Nat} (hp:getT s.t n= .one (.bool p))
 (ih:pureE P C cs y s (fun s'=>match getT s'.t n with | .one (.bool q)=>joinK (dstsOf y) n (p&&q) s K | _=>no) no →
   no∨∃ s1,(match getT s1.t n with | .one (.bool q)=>joinK (dstsOf y) n (p&&q) s K | _=>no)∧Pure P base w0 y s s1)
 (h:pureE P C cs y s (fun s'=>match getT s'.t n with | .one (.bool q)=>joinK (dstsOf y) n (p&&q) s K | _=>no) no) :
 no∨∃ s2,K s2∧Pure P base w0 (.cond (.tmp n) y .skip) s s2:=by
 rcases ih h with h | ⟨s1,h,h1⟩
 · exact .inl h
 split at h
 · rename_i q hq
   obtain ⟨s2,h2,h3,h4,h5,h6⟩:=joinK_eq (getT_lt hp) h
   obtain ⟨j1,j2⟩:=join_pure hp h1 hq h3 h4 h5 h6
   refine .inr ⟨s2,h2,h3,h4,fun m hm=> ?_,fun ρ a w R=> ?_⟩
   · have hm':m ∉ dstsOf y:=by simpa [dstsOf] using hm
     by_cases e:m=n
     · subst e
       have:=h1.2.2.1 m hm'
       rw [hq,hp] at this
       rw [h5,hp]
       obtain rfl:q=p:=by simpa using this
       simp
     · rw [h6 m e,if_neg hm']
   · refine wp_cond_split (ev_bool R.ctx (show ev s.abs.t (.tmp n)= .one (.bool p) from hp)) (fun e=> ?_) (fun e=> ?_)
     · refine Code.wp_mono ?_ (h1.2.2.2 ρ a w R)
       rintro e' a' w' ⟨x',s',ρ',rfl,⟨rfl,rfl⟩,R'⟩
       exact ⟨.normal,s2,ρ',rfl,⟨rfl,rfl⟩,j2 (by simp [e]) ρ' a' w' R'⟩
     · exact wp_skip ⟨.normal,s2,ρ,rfl,⟨rfl,rfl⟩,j1 (by simp [e]) ρ a w R⟩
 · exact .inl h
theorem pureE_sound (hC:CSound P G C) (hG:G w0) (hb0:base.b=w0.heap.size) (hnm:base.nm=C.nm) (hm:P.follows .mixedOrders=true) (cs:List Nat):∀ (x:Code) (s:S) (k:S→Prop) (no:Prop),pureE P C cs x s k no →
 no∨∃ s',k s'∧Pure P base w0 x s s'
 | .skip,s,k,no,h=> .inr ⟨s,h,rfl,rfl,fun _ _=>rfl,fun ρ a w R=>wp_skip ⟨.normal,s,ρ,rfl,⟨rfl,rfl⟩,R⟩⟩
 | .region id ops draw,s,k,no,h=>by
   have h:pureOps P C cs ops.toList s (fun fps s=>match (generalizing:=false) draw with
    | false=>k s
    | true=>match (generalizing:=false) headOf C.im ops.toList with
      | some _=>no
      | none=>match (generalizing:=false) okFrom 0 ops.toList fps with
        | true=>Both (Ob (Region.lexB .any ops=true)) (k s)
        | false=>no) no:=h
   rcases pureOps_run _ _ _ _ h with h | ⟨fps,s',h1,h2,h3,h4,h5,h6⟩
   · exact .inl h
   cases draw with
   | false=>
     refine .inr ⟨s',h1,h2,h3,h4,fun ρ a w R=>region_sound hC hG hb0 hnm hm ?_ R⟩
     show purgeAll C.nm C.mks ops.toList s fun s=>purgeApp C.nm ops.toList s fun s=>runOps P C ops.toList ops.toList [] s fun _ s=>_
     exact purge_none _ _ _ _ (fun o ho=>(h5 o ho).1) (purgeApp_none _ _ _ _ (fun o ho=>(h5 o ho).2) (h6 C rfl _ _ _ ⟨rfl,rfl⟩))
   | true=>
     dsimp only at h1
     cases hhd:headOf C.im ops.toList with
     | some n=>rw [hhd] at h1;exact .inl h1
     | none=>
     rw [hhd] at h1
     dsimp only at h1
     split at h1
     · rename_i hok
       obtain ⟨hB,h1⟩:=h1
       refine .inr ⟨s',h1,h2,h3,h4,fun ρ a w R=>region_sound hC hG hb0 hnm hm ?_ R⟩
       show purgeAll C.nm C.mks ops.toList s fun s=>purgeApp C.nm ops.toList s fun s=>match (generalizing:=false) headOf C.im ops.toList with
        | none=>runOps P (noInl C) ops.toList ops.toList [] s fun fps s=>match (generalizing:=false) okFrom 0 ops.toList fps with
          | true=>Both (Ob (Region.lexB .any ops=true)) (Ex.normal= .normal∧s=s')
          | false=>Stuck "order"
        | some n=>match (generalizing:=false) innerOf ops.toList n with
         | some q=>Both (Ob (Region.preF ops q=true)) (Both (Ob (innerB (ops.toList.take q) n=true)) (Both (Ob (Region.lexB .any (ghostAt (ops.toList.take q) n).toArray=true))
           (runOps P (noInl C) (ghostAt (ops.toList.take q) n) (ghostAt (ops.toList.take q) n) [] s fun fps s=>match (generalizing:=false) okFrom 0 (ghostAt (ops.toList.take q) n) fps with
             | true=>runOps P C ops.toList ((ops.toList.drop n).take 1) [] s fun _ s=>reK P (noInl C) (floatsL (ops.toList.take q) n) s (runOps P C ops.toList (ops.toList.drop q) [] s fun _ s=>Ex.normal= .normal∧s=s')
             | false=>Stuck "order")))
         | none=>match (generalizing:=false) plainT (ops.toList.take n) with
         | false=>Both (Ob (Region.preF ops n=true)) (runOps P (noInl C) (ops.toList.take n) (ops.toList.take n) [] s fun fps s=>match (generalizing:=false) okFrom 0 (ops.toList.take n) fps with
           | true=>runOps P C ops.toList (ops.toList.drop n) [] s fun _ s=>Ex.normal= .normal∧s=s'
           | false=>Stuck "order")
         | true=>match (generalizing:=false) midT (ops.toList.drop (n + 1)) with
          | false=>Both (Ob (Region.tailB ops n=true)) (runOps P (stillT C) ops.toList (ops.toList.take n) [] s fun fps s=>match (generalizing:=false) stillF fps with
            | true=>runOps P C ops.toList (ops.toList.drop n) [] s fun _ s=>Ex.normal= .normal∧s=s'
            | false=>Stuck "still")
          | true=>Both (Ob (Region.midB .any ops n=true)) (runOps P (stillT C) ops.toList (ops.toList.take n) [] s fun fps s=>match (generalizing:=false) stillF fps with
            | true=>runOps P C ops.toList ((ops.toList.drop n).take 1) [] s fun _ s=>runOps P (noInl C) ops.toList (ops.toList.drop (n + 1)) [] s fun fps s=>match (generalizing:=false) okFrom (n + 1) (ops.toList.drop (n + 1)) fps with
              | true=>Ex.normal= .normal∧s=s'
              | false=>Stuck "order"
            | false=>Stuck "still")
       rw [hhd]
       refine purge_none _ _ _ _ (fun o ho=>(h5 o ho).1) (purgeApp_none _ _ _ _ (fun o ho=>(h5 o ho).2) (h6 (noInl C) rfl _ _ _ ?_))
       rw [hok]
       exact ⟨hB,rfl,rfl⟩
     · exact .inl h1
 | .seq x y,s,k,no,h=>by
   have h:pureE P C cs x s (fun s=>pureE P C cs y s k no) no:=h
   rcases pureE_sound hC hG hb0 hnm hm cs x s _ no h with h | ⟨s1,h,h1⟩
   · exact .inl h
   rcases pureE_sound hC hG hb0 hnm hm cs y s1 _ no h with h | ⟨s2,h,h2⟩
   · exact .inl h
   refine .inr ⟨s2,h,h2.1.trans h1.1,h2.2.1.trans h1.2.1,fun n hn=> ?_,fun ρ a w R=>wp_seq (Code.wp_mono ?_ (h1.2.2.2 ρ a w R))⟩
   · simp only [dstsOf,List.mem_append,not_or] at hn
     rw [h2.2.2.1 n hn.2,h1.2.2.1 n hn.1]
   · rintro e a' w' ⟨x',s',ρ',rfl,⟨rfl,rfl⟩,R'⟩
     exact h2.2.2.2 ρ' a' w' R'
 | .cond c' x y,s,k,no,h=>by
   have h:(match (generalizing:=false) c' with
    | .tmp n=>match (generalizing:=false) memN n cs with
      | true=>match (generalizing:=false) getT s.t n with
        | .one (.bool p)=>match (generalizing:=false) isSkip x with
          | true=>pureE P C cs y s (fun s'=>match getT s'.t n with
            | .one (.bool q)=>joinK (dstsOf y) n (p||q) s k
            | _=>no) no
          | false=>match (generalizing:=false) isSkip y with
            | true=>pureE P C cs x s (fun s'=>match getT s'.t n with
              | .one (.bool q)=>joinK (dstsOf x) n (p&&q) s k
              | _=>no) no
            | false=>no
        | _=>no
      | false=>no
    | _=>no):=h
   split at h
   · rename_i n h0
     split at h
     · rename_i hn
       split at h
       · rename_i p hp
         split at h
         · rename_i hx
           obtain rfl:=isSkip_eq hx
           exact join_or hp (pureE_sound hC hG hb0 hnm hm cs y s _ no) h
         · split at h
           · rename_i hy
             obtain rfl:=isSkip_eq hy
             exact join_and hp (pureE_sound hC hG hb0 hnm hm cs x s _ no) h
           · exact .inl h
       · exact .inl h
     · exact .inl h
   · exact .inl h
 | .block _ _,_,_,_,h=> .inl h
 | .loop _,_,_,_,h=> .inl h
 | .rangeFunc _ _ _ _,_,_,_,h=> .inl h
 | .exit _,_,_,_,h=> .inl h
 | .scope _,_,_,_,h=> .inl h
 | .label _,_,_,_,h=> .inl h
 | .goto _,_,_,_,h=> .inl h
 | .ret,_,_,_,h=> .inl h
 | .refuse _,_,_,_,h=> .inl h
theorem E_sound (hC:CSound P G C) (hG:G w0) (hb0:base.b=w0.heap.size) (hnm:base.nm=C.nm) (hm:P.follows .mixedOrders=true):∀ (c:Code) (s:S) (Qa:Ex→S→Prop),E P C c s Qa→∀ (ρ:Nat→Loc) (a:Act) (w:World),
 RelS base w0 ρ s.abs a w→c.wp P (Post base w0 Qa) a w
 | .skip,s,Qa,h,ρ,a,w,R=>wp_skip ⟨.normal,s,ρ,rfl,h,R⟩
 | .exit n,s,Qa,h,ρ,a,w,R=>wp_exit ⟨.exit n,s,ρ,rfl,h,R⟩
 | .ret,s,Qa,h,ρ,a,w,R=>wp_ret ⟨.ret,s,ρ,rfl,h,R⟩
 | .region id ops draw,s,Qa,h,ρ,a,w,R=>by
   exact region_sound hC hG hb0 hnm hm h R
 | .seq x y,s,Qa,h,ρ,a,w,R=>by
   have h:E P C x s fun e s=>match (generalizing:=false) e with
    | .normal=>E P C y s Qa
    | .ret=>Qa .ret s
    | .exit n=>Qa (.exit n) s:=h
   refine wp_seq (Code.wp_mono ?_ (E_sound hC hG hb0 hnm hm x s _ h ρ a w R))
   rintro e a' w' ⟨x',s',ρ',rfl,hq,R'⟩
   cases x' with
   | normal=>exact E_sound hC hG hb0 hnm hm y s' Qa hq ρ' a' w' R'
   | ret=>exact ⟨.ret,s',ρ',rfl,hq,R'⟩
   | exit n=>exact ⟨.exit n,s',ρ',rfl,hq,R'⟩
 | .cond c x y,s,Qa,h,ρ,a,w,R=>by
   have h:(match (generalizing:=false) ev s.t c with
    | .one (.bool p)=>match (generalizing:=false) isClo C.app with
     | true=>Both (Given (p=true) (E P C x s Qa)) (Given (p=false) (E P C y s Qa))
     | false=>match (generalizing:=false) c with
      | .tmp n=>match (generalizing:=false) isSkip x with
        | true=>pureE P C (n::condsOf y) y s (fun s'=>match getT s'.t n with
          | .one (.bool q)=>joinK (dstsOf y) n (p||q) s fun s=>Qa .normal s
          | _=>Both (Given (p=true) (E P C x s Qa)) (Given (p=false) (E P C y s Qa))) (Both (Given (p=true) (E P C x s Qa)) (Given (p=false) (E P C y s Qa)))
        | false=>match (generalizing:=false) isSkip y with
          | true=>pureE P C (n::condsOf x) x s (fun s'=>match getT s'.t n with
            | .one (.bool q)=>joinK (dstsOf x) n (p&&q) s fun s=>Qa .normal s
            | _=>Both (Given (p=true) (E P C x s Qa)) (Given (p=false) (E P C y s Qa))) (Both (Given (p=true) (E P C x s Qa)) (Given (p=false) (E P C y s Qa)))
          | false=>Both (Given (p=true) (E P C x s Qa)) (Given (p=false) (E P C y s Qa))
      | _=>Both (Given (p=true) (E P C x s Qa)) (Given (p=false) (E P C y s Qa))
    | _=>Stuck "cond"):=h
   split at h
   · rename_i b hb
     have old:Both (Given (b=true) (E P C x s Qa)) (Given (b=false) (E P C y s Qa))→(Code.cond c x y).wp P (Post base w0 Qa) a w:=by
      rintro ⟨⟨h1⟩,⟨h2⟩⟩
      exact wp_cond_split (ev_bool R.ctx hb) (fun e=>E_sound hC hG hb0 hnm hm x s Qa (h1 e) ρ a w R) (fun e=>E_sound hC hG hb0 hnm hm y s Qa (h2 e) ρ a w R)
     have new:∀ {s2:S},Qa .normal s2→Pure P base w0 (.cond c x y) s s2→(Code.cond c x y).wp P (Post base w0 Qa) a w:=by
      intro s2 hq hp
      refine Code.wp_mono ?_ (hp.2.2.2 ρ a w R)
      rintro e a' w' ⟨x',s',ρ',rfl,⟨rfl,rfl⟩,R'⟩
      exact ⟨.normal,_,ρ',rfl,hq,R'⟩
     split at h
     · exact old h
     split at h
     · rename_i n h0
       split at h
       · rename_i hx
         obtain rfl:=isSkip_eq hx
         rcases join_or (show getT s.t n= .one (.bool b) from hb) (pureE_sound hC hG hb0 hnm hm _ y s _ _) h with h | ⟨s2,h1,h2⟩
         · exact old h
         · exact new h1 h2
       · split at h
         · rename_i hy
           obtain rfl:=isSkip_eq hy
           rcases join_and (show getT s.t n= .one (.bool b) from hb) (pureE_sound hC hG hb0 hnm hm _ x s _ _) h with h | ⟨s2,h1,h2⟩
           · exact old h
           · exact new h1 h2
         · exact old h
     · exact old h
   · cases h
 | .block n x,s,Qa,h,ρ,a,w,R=>by
   have h:E P C x s fun e s=>match (generalizing:=false) e with
    | .normal=>Qa .normal s
    | .ret=>Qa .ret s
    | .exit m=>match (generalizing:=false) Nat.beq m n with
      | true=>Qa .normal s
      | false=>Qa (.exit m) s:=h
   refine wp_block (Code.wp_mono ?_ (E_sound hC hG hb0 hnm hm x s _ h ρ a w R))
   rintro e a' w' ⟨x',s',ρ',rfl,hq,R'⟩
   cases x' with
   | normal=>exact ⟨.normal,s',ρ',rfl,hq,R'⟩
   | ret=>exact ⟨.ret,s',ρ',rfl,hq,R'⟩
   | exit m=>
     dsimp only at hq
     show if m=n then _ else _
     split at hq
     · rename_i he;rw [if_pos (by simpa using he)];exact ⟨.normal,s',ρ',rfl,hq,R'⟩
     · rename_i he;rw [if_neg (Nat.ne_of_beq_eq_false he)];exact ⟨.exit m,s',ρ',rfl,hq,R'⟩
 | .loop x,s,Qa,h,ρ,a,w,R=>by
   have h:LoopP C.nm (E P C x) s Qa:=h
   rw [← hnm] at h
   rcases h with ⟨κ,ok,sh,m,⟨k0,hk0,hle0⟩,hround⟩ | ⟨n,hn⟩
   rotate_left
   · refine wp_loop_rounds n ?_
     have key:∀ (n:Nat) (s:S) (ρ:Nat→Loc) (a:Act) (w:World),timesP (E P C x) Qa n s→RelS base w0 ρ s.abs a w→Code.rounds P x (Post base w0 Qa) n a w:=by
      intro n
      induction n with
      | zero=>intro s ρ a w h _;cases (h:Stuck "times")
      | succ n ih=>
        intro s ρ a w h R
        rw [rounds_succ]
        have h:E P C x s fun e s=>match (generalizing:=false) e with
         | .normal=>timesP (E P C x) Qa n s
         | .ret=>Qa .ret s
         | .exit m=>Qa (.exit m) s:=h
        refine Code.wp_mono ?_ (E_sound hC hG hb0 hnm hm x s _ h ρ a w R)
        rintro e a' w' ⟨x',s',ρ',rfl,hq,R'⟩
        cases x' with
        | normal=>exact ih s' ρ' a' w' hq R'
        | ret=>exact ⟨.ret,s',ρ',rfl,hq,R'⟩
        | exit m=>exact ⟨.exit m,s',ρ',rfl,hq,R'⟩
     exact key n s ρ a w hn R
   let p:Act→World→Nat→Prop:=fun a w n=>∃ k ρ,ok k∧m k=n∧RelS base w0 ρ (sh k).abs a w
   have hex:∀ a w,(∃ k ρ,ok k∧RelS base w0 ρ (sh k).abs a w)→∃ n,p a w n:=fun a w ⟨k,ρ,h1,h2⟩=>⟨m k,k,ρ,h1,rfl,h2⟩
   classical
   let μ:Act→World→Nat:=fun a w=>if h:∃ n,p a w n then Classical.choose (least h) else 0
   have hμ:∀ a w (h:∃ n,p a w n),p a w (μ a w)∧∀ n,p a w n→μ a w≤n:=fun a w h=>by
    have:=Classical.choose_spec (least h)
    simp only [μ,dif_pos h]
    exact this
   refine wp_loop (fun a w=>∃ k ρ,ok k∧RelS base w0 ρ (sh k).abs a w) μ ⟨k0,ρ,hk0,R.le hle0⟩ ?_
   intro a w hI
   obtain ⟨k,ρ,hk,hmk,R'⟩:=(hμ a w (hex a w hI)).1
   refine Code.wp_mono ?_ (E_sound hC hG hb0 hnm hm x (sh k) _ (hround k hk) ρ a w R')
   rintro e a' w' ⟨x',s',ρ',rfl,hq,R''⟩
   cases x' with
   | normal=>
     obtain ⟨k',hk',hlt,hle⟩:=hq
     have hin:∃ k ρ,ok k∧RelS base w0 ρ (sh k).abs a' w':=⟨k',ρ',hk',R''.le hle⟩
     refine ⟨hin,?_⟩
     have:=(hμ a' w' (hex a' w' hin)).2 (m k') ⟨k',ρ',hk',rfl,R''.le hle⟩
     omega
   | ret=>exact ⟨.ret,s',ρ',rfl,hq,R''⟩
   | exit n=>exact ⟨.exit n,s',ρ',rfl,hq,R''⟩
 | .rangeFunc _ _ _ _,_,_,h,_,_,_,_=>by cases (h:Stuck "code")
 | .scope _,_,_,h,_,_,_,_=>by cases (h:Stuck "code")
 | .label _,_,_,h,_,_,_,_=>by cases (h:Stuck "code")
 | .goto _,_,_,h,_,_,_,_=>by cases (h:Stuck "code")
 | .refuse _,_,_,h,_,_,_,_=>by cases (h:Stuck "code")
theorem junks_len:∀ n,(junks n).length=n
 | 0=>rfl
 | n + 1=>by simp [junks,junks_len n]
theorem start_len:∀ (n:Nat) (l:List AV),l.length≤n→(start n l).length=n
 | n,[],_=>by cases n<;>simp [start,junks_len]
 | 0,_::_,h=>by simp at h
 | n + 1,x::l,h=>by simp [start,start_len n l (by simpa using h)]
theorem getT_junks:∀ (k n:Nat),getT (junks k) n= .one .junk
 | 0,_=>rfl
 | _ + 1,0=>rfl
 | k + 1,n + 1=>getT_junks k n
theorem start_rel {ρ:Nat→Loc}:∀ (k:Nat) (l:List AV) (us:List Value),l.length≤k→RelAs ρ l us→∀ n (v:Value),(us[n]? =some v∨us.length≤n)→RelA ρ (getT (start k l) n) v
 | k,[],us,_,h,n,v,_=>by
   have:getT (start k []) n= .one .junk:=by cases k<;>exact getT_junks _ _
   rw [this];exact fun hn=>absurd rfl hn
 | 0,_::_,_,hl,_,_,_,_=>by simp at hl
 | k + 1,x::l,u::us,hl,h,0,v,hv=>by
   rcases hv with hv | hv
   · simp at hv;subst hv;exact h.1
   · simp at hv
 | k + 1,x::l,u::us,hl,h,n + 1,v,hv=>by
   exact start_rel k l us (by simpa using hl) h.2 n v (by simpa using hv)
 | _,_::_,[],_,h,_,_,_=>h.elim
theorem start_names (k:Nat) (l:List AV) (hl:∀ v∈l,v.names=[]):∀ n,(getT (start k l) n).names=[]:=by
 induction l generalizing k with
 | nil=>
   intro n
   have:getT (start k []) n= .one .junk:=by cases k<;>exact getT_junks _ _
   rw [this];rfl
 | cons x l ih=>
   intro n
   cases k with
   | zero=>
     have:∀ (r:List AV) (n:Nat),(∀ v∈r,v.names=[])→(getT r n).names=[]:=by
      intro r
      induction r with
      | nil=>intro n _;rfl
      | cons y r ihr=>intro n hr;cases n with
        | zero=>exact hr y (by simp)
        | succ n=>exact ihr n fun v hv=>hr v (by simp [hv])
     exact this (x::l) n hl
   | succ k=>
     cases n with
     | zero=>exact hl x (by simp)
     | succ n=>exact ih k (fun v hv=>hl v (by simp [hv])) n
theorem start_mem:∀ (k:Nat) (l:List AV) (n:Nat),getT (start k l) n= .one .junk∨getT (start k l) n∈l
 | k,[],n=>by
   have:getT (start k []) n= .one .junk:=by cases k<;>exact getT_junks _ _
   exact .inl this
 | 0,x::l,n=>by
   have:∀ (r:List AV) (n:Nat),getT r n= .one .junk∨getT r n∈r:=by
    intro r
    induction r with
    | nil=>intro n;exact .inl rfl
    | cons y r ih=>intro n;cases n with
      | zero=>exact .inr (by simp [getT])
      | succ n=>rcases ih n with h | h
                · exact .inl h
                · exact .inr (by simp only [getT];exact List.mem_cons_of_mem _ h)
   exact this (x::l) n
 | k + 1,x::l,0=> .inr (by simp [start,getT])
 | k + 1,x::l,n + 1=>by
   rcases start_mem k l n with h | h
   · exact .inl h
   · exact .inr (by simp only [start,getT];exact List.mem_cons_of_mem _ h)
theorem relAs_len {ρ:Nat→Loc}:∀ {l:List AV} {us:List Value},RelAs ρ l us→l.length=us.length
 | [],[],_=>rfl
 | _::_,_::_,h=>by simp [relAs_len h.2]
 | [],_::_,h=>h.elim
 | _::_,[],h=>h.elim
def resM (tmps:Array Value):ResultVar→Sem Value
 | .tmp t=>pure (tmps.getD t undef)
 | .cell ad t=>do loadVar t (← asAddr (tmps.getD ad undef))
theorem results_eq (fn:Func) (tmps:Array Value):results fn tmps=(do let vs ← fn.results.mapM (resM tmps);pure (if h:vs.size=1 then vs[0] else .tuple vs)):=rfl
theorem res_run {ρ:Nat→Loc} {s:S} {a:Act} {w:World} (R:RelS base w0 ρ s.abs a w):∀ (rs:List ResultVar) (r:List (Bool×List L)),resLs P s rs=some r →
 ∃ us,(rs.mapM (resM a.tmps)).run P w= .ok us w∧RelVs ρ r us
 | [],r,e=>by
   simp [resLs] at e;subst e
   exact ⟨[],rfl,trivial⟩
 | .tmp t::rs,r,e=>by
   simp only [resLs] at e
   split at e
   · rename_i r' hr
     obtain ⟨us,h1,h2⟩:=res_run R rs r' hr
     have ht:=R.ctx.tmps t
     refine ⟨a.tmps.getD t undef::us,by simp [List.mapM_cons,resM,h1,-Array.getD_eq_getD_getElem?],?_⟩
     split at e
     · rename_i l hl
       obtain rfl:=Option.some.inj e
       rw [show getT s.abs.t t= .one l from hl] at ht
       exact ⟨ht,h2⟩
     · rename_i ls hl
       obtain rfl:=Option.some.inj e
       rw [show getT s.abs.t t= .agg ls from hl] at ht
       exact ⟨ht,h2⟩
     · cases e
   · cases e
 | .cell ad T::rs,r,e=>by
   simp only [resLs] at e
   split at e
   · rename_i r' hr
     obtain ⟨us,h1,h2⟩:=res_run R rs r' hr
     split at e
     · rename_i i off hp
       have hptr:=R.ctx.tmps ad
       rw [show getT s.abs.t ad= .one (.ptr i off) from hp] at hptr
       have hev:=hptr (by simp)
       simp only [gL] at hev
       have has:asAddr (a.tmps.getD ad undef)=pure ⟨(ρ i).b,(ρ i).o + off,none⟩:=by rw [hev];rfl
       split at e
       · rename_i bk hb
         split at e
         · rename_i inf hi
           split at e
           · rename_i hA
             split at e
             · rename_i ls hls
               obtain ⟨T',cs,fr,us',ws',hc,hd,hrel,-⟩:=rd_get R.ctx (show s.abs.h i=some bk from hb) hls
               split at e
               · rename_i r1 ht
                 obtain rfl:=Option.some.inj e
                 have ⟨h3,h4⟩:=relLs_take _ ht (relLs_drop off hrel)
                 obtain ⟨u,hu,hur⟩:=load_agg (P:=P) hc hi hA hd h3 h4
                 refine ⟨u::us,?_,hur,h2⟩
                 simp [List.mapM_cons,resM,h1,has,hu,-Array.getD_eq_getD_getElem?]
               · cases e
             · cases e
           · rename_i hA
             split at e
             · rename_i ls hls
               obtain ⟨T',cs,fr,us',ws',hc,hd,hrel,-⟩:=rd_get R.ctx (show s.abs.h i=some bk from hb) hls
               split at e
               · rename_i l ht
                 obtain rfl:=Option.some.inj e
                 obtain ⟨v,hv,hl,-⟩:=relLs_head (relLs_drop off hrel) ht
                 refine ⟨v::us,?_,hl,h2⟩
                 simp [List.mapM_cons,resM,h1,has,load_cell (P:=P) hc hA hd hv,-Array.getD_eq_getD_getElem?]
               · cases e
             · cases e
           · cases e
         · cases e
       · cases e
     · cases e
   · cases e
theorem relVs_nil {ρ:Nat→Loc} {p:Bool×List L} {r:List (Bool×List L)} (h:RelVs ρ (p::r) []):False:=by
 obtain ⟨b,l⟩:=p
 cases b
 · match l,h with
   | [],h=>exact h.elim
   | [_],h=>exact h.elim
   | _::_::_,h=>exact h.elim
 · exact h.elim
theorem resV_rel {ρ:Nat→Loc} {r:List (Bool×List L)} {us:List Value} (h:RelVs ρ r us):RelA ρ (resV r) (if h:us.toArray.size=1 then us.toArray[0] else .tuple us.toArray):=by
 match r,us,h with
 | [],[],_=>exact ⟨_,rfl,trivial⟩
 | [(true,ls)],[u],⟨⟨cs,e,h1⟩,_⟩=>exact ⟨cs,e,h1⟩
 | [(false,[l])],[u],⟨h1,_⟩=>exact h1
 | (true,ls)::p::r,u::v::us,h=>
   simp only [resV]
   rw [dif_neg (by simp)]
   exact ⟨_,rfl,h⟩
 | (false,[l])::p::r,u::v::us,h=>
   simp only [resV]
   rw [dif_neg (by simp)]
   exact ⟨_,rfl,h⟩
 | (true,ls)::p::r,[u],h=>exact (relVs_nil h.2).elim
 | (false,[l])::p::r,[u],h=>exact (relVs_nil h.2).elim
 | [(true,ls)],u::v::us,h=>exact h.2.elim
 | [(false,[l])],u::v::us,h=>exact h.2.elim
theorem F_sound (hC:CSound P G C) (hm:P.follows .mixedOrders=true) {f:FuncId} {fn:Func} (hf:P.funcs[f]? =some fn) {args:List AV} {K:AV→Prop} (h:F P C fn args K)
 (hn:∀ v∈args,v.names=[]) {us:List Value} {ρ:Nat→Loc} (hargs:RelAs ρ args us) {w:World} (hG:G w) :
 Calls P f us.toArray w (fun e w'=>∃ v u ρ',K v∧e= .returned u∧RelA ρ' v u∧Below w.heap.size w w'):=by
 unfold F at h
 split at h
 · rename_i c hc
   split at h
   · cases h
   · rename_i hle
     rw [startR_eq] at h
     have hle':args.length≤fn.ntmps:=by simpa using hle
     have hlen:=relAs_len hargs
     have R0:RelS ⟨w.heap.size,0,ρ,fun _=>False,w,fun _=>True⟩ w ρ (S.abs ⟨start fn.ntmps args,[]⟩) { tmps:=us.toArray++Array.replicate (fn.ntmps - us.toArray.size) undef,defers:=[] } w:=by
      refine ⟨rfl,?_,⟨fun n=> ?_,fun i b e=>by simp [S.abs,look] at e,fun n m hm=> ?_,fun i b e=>by simp [S.abs,look] at e⟩,fun i c hi=>by simp [S.abs,look] at hi,
       fun i j c d hi=>by simp [S.abs,look] at hi,Below.refl _ _,Nat.le_refl _,fun _ h=>h.elim,⟨Nat.le_refl _,fun _ _ _=>rfl,fun i c hi=>by simp [S.abs,look] at hi⟩⟩
      · simp [S.abs,start_len _ _ hle'];omega
      · refine start_rel fn.ntmps args us hle' hargs n _ ?_
        by_cases hlt:n<us.length
        · refine .inl ?_
          simp [Array.getElem?_append,hlt]
        · exact .inr (by omega)
      · have:=start_names fn.ntmps args hn n
        simp [S.abs,this] at hm
     refine calls_of_wp hf hc (Code.wp_mono ?_ (E_sound (C:=setNm C 0 fn.ntmps) (hC.inl' hC.inl C.app 0 fn.ntmps C.im C.mks) hG rfl rfl hm c _ _ h ρ _ w R0))
     rintro e a' w' ⟨x,s',ρ',rfl,hq,R⟩
     have fin:∀ {q:Prop},(match resLs P s' fn.results.toList with | some r=>forceA (resV r) fun v=>Ob (K v) | none=>Stuck "res") →
      (∀ u,(results fn a'.tmps).run P w'= .ok u w'→(∃ v u' ρ',K v∧Ending.returned u= .returned u'∧RelA ρ' v u'∧Below w.heap.size w w')→q)→q:=by
      intro q hq hk
      split at hq
      · rename_i r hr
        rw [forceA_eq] at hq
        obtain ⟨hK⟩:=hq
        obtain ⟨us',h1,h2⟩:=res_run R _ _ hr
        refine hk _ ?_ ⟨resV r,_,ρ',hK,rfl,resV_rel h2,R.below⟩
        rw [results_eq,Array.mapM_eq_mapM_toList]
        simp [h1,-Array.getD_eq_getD_getElem?]
      · cases hq
     cases x with
     | normal=>exact fin hq fun u h1 h2=>⟨R.defers,u,h1,h2⟩
     | ret=>exact fin hq fun u h1 h2=>⟨R.defers,u,h1,h2⟩
     | exit n=>cases hq
 · cases h
theorem cutHK_eq {α:Sort _} (b:Nat):∀ (l:List (Nat×Blk)) (k:List (Nat×Blk)→α),∃ l',cutHK b l k=k l'∧∀ i,look l' i=if i<b then look l i else none
 | [],k=>⟨[],rfl,fun i=>by simp [look]⟩
 | (j,c)::r,k=>by
   have e:cutHK b ((j,c)::r) k=(match Nat.blt j b with
    | true=>cutHK b r fun r=>k ((j,c)::r)
    | false=>cutHK b r k):=rfl
   rw [e]
   split
   · rename_i hj
     have hj':j<b:=by simpa using hj
     obtain ⟨l',h1,h2⟩:=cutHK_eq b r fun r=>k ((j,c)::r)
     refine ⟨_,h1,fun i=> ?_⟩
     rw [look_eq_beq,look_eq_beq,h2]
     by_cases hi:j=i
     · subst hi;simp [hj']
     · simp [hi]
   · rename_i hj
     have hj':¬ j<b:=by
      intro hlt
      have:=Nat.ble_eq_true_of_le hlt
      simp [Nat.blt,this] at hj
     obtain ⟨l',h1,h2⟩:=cutHK_eq b r k
     refine ⟨l',h1,fun i=> ?_⟩
     rw [h2,look_eq_beq]
     by_cases hi:j=i
     · subst hi;simp [hj']
     · simp [hi]
theorem outsK_eq {h:List (Nat×Blk)}:∀ (l:List Nat) (g:List (Nat×Blk)) (k:List (Nat×Blk)→Prop),outsK h l g k →
 ∃ g',k g'∧(∀ i b,look g' i=some b→look h i=some b∨look g i=some b)∧∀ i,look g i≠none→look g' i≠none
 | [],g,k,hk=>⟨g,hk,fun i b h=> .inr h,fun i h=>h⟩
 | i::l,g,k,hk=>by
   have e:outsK h (i::l) g k=(match look h i with
    | some b=>forceB b fun b=>outsK h l ((i,b)::g) k
    | none=>Stuck "out"):=rfl
   rw [e] at hk
   split at hk
   · rename_i b hb
     · rw [forceB_eq] at hk
       obtain ⟨g',h1,h2,h3⟩:=outsK_eq l ((i,b)::g) k hk
       refine ⟨g',h1,fun x c hx=> ?_,fun x hx=>h3 x ?_⟩
       · rcases h2 x c hx with h4 | h4
         · exact .inl h4
         · rw [look_eq_beq] at h4
           split at h4
           · rename_i e;subst e;obtain rfl:=Option.some.inj h4;exact .inl hb
           · exact .inr h4
       · rw [look_eq_beq]
         split
         · simp
         · exact hx
   · cases hk
theorem FI_sound (hC:CSound P G C) (hm:P.follows .mixedOrders=true) {f:FuncId} {fn:Func} (hf:P.funcs[f]? =some fn) {tp:Nat} {args:List AV} {h:List (Nat×Blk)} {K:AV→List (Nat×Blk)→Prop}
 (hF:FI P C fn tp args h K) (hlt:∀ m,look h m≠none→m<tp) (hn:∀ v∈args,∀ m∈v.names,look h m≠none) (b:Nat) (w0:World) (ρ:Nat→Loc) (us:List Value) (w:World) (hG:G w0)
 (hb:b=w0.heap.size) (hargs:RelAs ρ args us) (H:RelH b w0 ρ (look h) w) :
 Calls P f us.toArray w (fun e w'=>∃ v h' u ρ',K v h'∧e= .returned u∧RelA ρ' v u∧(∀ m∈v.names,look h' m≠none)∧RelH b w0 ρ' (look h') w' ∧
  (∀ m,look h m≠none→look h' m≠none∧ρ' m=ρ m)∧w.heap.size≤w'.heap.size∧(∀ k,k<w.heap.size→(∀ m c,look h m=some c→c.own=true→(ρ m).b≠k)→w'.heap[k]? =w.heap[k]?) ∧
  ∀ m c,look h' m=some c→c.own=true→look h m=none→w.heap.size≤(ρ' m).b):=by
 unfold FI at hF
 split at hF
 · rename_i c hc
   split at hF
   · cases hF
   · rename_i hle
     rw [startR_eq] at hF
     have hle':args.length≤fn.ntmps:=by simpa using hle
     have hlen:=relAs_len hargs
     have R0:RelS ⟨b,tp,ρ,fun m=>look h m≠none,w,fun k=>∀ m c,look h m=some c→c.own=true→(ρ m).b≠k⟩ w0 ρ (S.abs ⟨start fn.ntmps args,h⟩) { tmps:=us.toArray++Array.replicate (fn.ntmps - us.toArray.size) undef,defers:=[] } w:=by
      refine ⟨rfl,?_,⟨fun n=> ?_,H.heap,fun n m hm=> ?_,H.namesH⟩,H.low,H.inj,H.below,H.base,fun m hm=>⟨hlt m hm,hm,rfl⟩,⟨Nat.le_refl _,fun _ _ _=>rfl,fun i c h1 h2 _ h3=>h3 i c h1 h2 rfl⟩⟩
      · simp [S.abs,start_len _ _ hle'];omega
      · refine start_rel fn.ntmps args us hle' hargs n _ ?_
        by_cases hlt:n<us.length
        · refine .inl ?_
          simp [Array.getElem?_append,hlt]
        · exact .inr (by omega)
      · rcases start_mem fn.ntmps args n with e | e
        · simp [S.abs,e,AV.names,L.names] at hm
        · exact hn _ e m hm
     refine calls_of_wp hf hc (Code.wp_mono ?_ (E_sound (C:=setNm C tp (tp + fn.ntmps)) (hC.inl' hC.inl C.app tp (tp + fn.ntmps) C.im C.mks) hG hb rfl hm c _ _ hF ρ _ w R0))
     rintro e a' w' ⟨x,s',ρ',rfl,hq,R⟩
     have fin:∀ {q:Prop},(match resLs P s' fn.results.toList with
      | some r=>forceA (resV r) fun v=>cutHK tp s'.h fun h=>outsK s'.h (newNs tp (reachF (look s'.h) 200 v.names [])) h fun h'=>match allIn h' v.names,scopeH h' h' with
        | true,true=>K v h'
        | _,_=>Stuck "out"
      | none=>Stuck "res") →
      (∀ u,(results fn a'.tmps).run P w'= .ok u w'→(∃ v h' u' ρ',K v h'∧Ending.returned u= .returned u'∧RelA ρ' v u'∧(∀ m∈v.names,look h' m≠none)∧RelH b w0 ρ' (look h') w' ∧
        (∀ m,look h m≠none→look h' m≠none∧ρ' m=ρ m)∧w.heap.size≤w'.heap.size∧(∀ k,k<w.heap.size→(∀ m c,look h m=some c→c.own=true→(ρ m).b≠k)→w'.heap[k]? =w.heap[k]?) ∧
      ∀ m c,look h' m=some c→c.own=true→look h m=none→w.heap.size≤(ρ' m).b)→q)→q:=by
      intro q hq hk
      split at hq
      · rename_i r hr
        rw [forceA_eq] at hq
        obtain ⟨h1',e1,e2⟩:=cutHK_eq tp s'.h fun h=>outsK s'.h (newNs tp (reachF (look s'.h) 200 (resV r).names [])) h fun h'=>match allIn h' (resV r).names,scopeH h' h' with
         | true,true=>K (resV r) h'
         | _,_=>Stuck "out"
        rw [e1] at hq
        obtain ⟨h',hq,e3⟩:=outsK_eq (newNs tp (reachF (look s'.h) 200 (resV r).names [])) h1' _ hq
        split at hq
        · rename_i ha hs
          obtain ⟨us',h1,h2⟩:=res_run R _ _ hr
          have hsub1:∀ i b,look h1' i=some b→look s'.h i=some b:=fun i b hi=>by
           rw [e2] at hi
           split at hi
           · exact hi
           · cases hi
          have hsub:∀ i b,look h' i=some b→look s'.h i=some b:=fun i b hi=>by
           rcases e3.1 i b hi with h3 | h3
           · exact h3
           · exact hsub1 i b h3
          have hsome:∀ i,look h' i≠none→look s'.h i≠none:=fun i hi=>by
           cases hb:look h' i with
           | none=>exact absurd hb hi
           | some c=>rw [hsub i c hb];simp
          refine hk _ ?_ ⟨resV r,h',_,ρ',hq,rfl,resV_rel h2,allIn_spec ha,⟨fun i c hi=>R.ctx.heap i c (hsub i c hi),fun i c hi m hm=> ?_,fun i c hi=>R.low i c (hsub i c hi),
           fun i j c d hi hj ho e=>R.inj i j c d (hsub i c hi) (hsub j d hj) ho e,R.below,R.base⟩,fun m hm=> ?_,R.far.grown,R.far.keeps,fun m c h1 h2 h3=> ?_⟩
          · rw [results_eq,Array.mapM_eq_mapM_toList]
            simp [h1,-Array.getD_eq_getD_getElem?]
          · exact scopeH_spec hs i c hi m hm
          · obtain ⟨h3,h4,h5⟩:=R.frame m hm
            refine ⟨e3.2 m ?_,h5⟩
            rw [e2,if_pos h3]
            exact h4
          · refine Nat.le_of_not_lt fun hlt=>R.far.apart m c (hsub m c h1) h2 hlt fun m' c' h4 h5 e=> ?_
            obtain ⟨_,h6,h7⟩:=R.frame m' (by show look h m'≠none;rw [h4];simp)
            cases h8:look s'.h m' with
            | none=>exact h6 h8
            | some d=>
              have h9:=R.inj m m' c d (hsub m c h1) h8 h2 (by rw [h7];exact e.symm)
              rw [h9,h4] at h3;cases h3
        · cases hq
      · cases hq
     cases x with
     | normal=>exact fin hq fun u h1 h2=>⟨R.defers,u,h1,h2⟩
     | ret=>exact fin hq fun u h1 h2=>⟨R.defers,u,h1,h2⟩
     | exit n=>cases hq
 · cases hF
def FsOK (P:Program) (fs:List (Nat×Func)):Prop:=∀ f fn,findF fs f=some fn→P.funcs[f]? =some fn∧(fn.name== "runtime.NumGoroutine")=false∧fn.body.isNone=false
theorem FsOK.nil:FsOK P []:=fun _ _ h=>by simp [findF] at h
theorem FsOK.cons {f:Nat} {fn:Func} {r:List (Nat×Func)} (hf:P.funcs[f]? =some fn) (hn:(fn.name== "runtime.NumGoroutine")=false) (hb:fn.body.isNone=false) (h:FsOK P r):FsOK P ((f,fn)::r):=fun g gn hg=>by
 simp only [findF] at hg
 split at hg
 · rename_i he
   have he':f=g:=by simpa using he
   subst he'
   obtain rfl:=Option.some.inj hg
   exact ⟨hf,hn,hb⟩
 · exact h g gn hg
theorem inlN_sound (hC:CSound P G C) (hm:P.follows .mixedOrders=true) {fs:List (Nat×Func)} (hfs:FsOK P fs):∀ n,InlOK P G (inlN P C fs n)
 | 0=>fun _ _ _ _ _ h=>by cases (h:Stuck "deep")
 | n + 1=>fun f tp args h K hF hlt hn=>by
   have hF:(match (generalizing:=false) findF fs f with
    | some fn=>FI P (withInl C (inlN P C fs n)) fn tp args h K
    | none=>Stuck "call"):=hF
   split at hF
   · rename_i fn hfn
     obtain ⟨h1,h2,h3⟩:=hfs f fn hfn
     exact ⟨⟨fn,h1,h2,h3⟩,fun b w0 ρ us w hG hb hargs H=>FI_sound (C:=withInl C (inlN P C fs n)) (hC.inl' (inlN_sound hC hm hfs n) C.app C.nm C.tp C.im C.mks) hm h1 hF hlt hn b w0 ρ us w hG hb hargs H⟩
   · cases hF
end
abbrev Sp:=List AV→Option (Cond×AV)
def tabF:List (Nat×Sp)→FuncId→List AV→Option (Cond×AV)
 | [],_,_=>none
 | (g,sp)::r,f,args=>match Nat.beq g f with
   | true=>sp args
   | false=>tabF r f args
structure VData where
 glob:TypeId→Nat→Nat→Option AV
 look:TypeId→Bool→Nat→Nat→AV→Option (Cond×AV)
abbrev noData:VData:=⟨fun _ _ _=>none,fun _ _ _ _ _=>none⟩
abbrev tab (D:VData) (l:List (Nat×Sp)):Table:=⟨fun f args _=>tabF l f args,D.glob,D.look,fun _ _ _ _ _=>Stuck "call",.sym,0,0,[],fun _ _ _=>none,[]⟩
abbrev tabI (P:Program) (D:VData) (l:List (Nat×Sp)) (fs:List (Nat×Func)) (n:Nat):Table:=withInl (tab D l) (inlN P (tab D l) fs n)
structure DataOK (P:Program) (G:World→Prop) (D:VData):Prop where
 stable:∀ w w',G w→Below w.heap.size w w'→G w'
 globs:∀ T g off v,D.glob T g off=some v→v.names=[]∧∀ w,G w→∃ u,(loadVar T ⟨g,off,none⟩).run P w= .ok u w∧∀ ρ,RelA ρ v u
 looks:∀ T ok g b key c v,D.look T ok g b key=some (c,v)→c.holds→v.names=[]∧∀ w,G w→∀ ρ k,RelA ρ key k→∃ u,(Instr.lookup T (.map (some b)) k ok).run P w= .ok u w∧RelA ρ v u
def anyWorld:World→Prop:=fun _=>True
structure EntryOK (P:Program) (G:World→Prop) (f:FuncId) (sp:Sp):Prop where
 fn:∃ fn,P.funcs[f]? =some fn∧(fn.name== "runtime.NumGoroutine")=false∧fn.body.isNone=false
 calls:∀ args c v,sp args=some (c,v)→c.holds→v.names=[] ∧
  ∀ us ρ,RelAs ρ args us→∀ w,G w→Calls P f us.toArray w (fun e w'=>∃ u,e= .returned u∧RelA ρ v u∧Below w.heap.size w w')
section
variable {P : Program} {G : World → Prop} {D : VData}
theorem CSound.nil (h:DataOK P G D):CSound P G (tab D []):=⟨h.stable,h.globs,h.looks,fun f args bs c v e=>by simp [tabF] at e,InlOK.none P G,MkOK.none P G⟩
theorem DataOK.none:DataOK P anyWorld noData:=⟨fun _ _ _ _=>trivial,fun _ _ _ _ e=>by simp at e,fun _ _ _ _ _ _ _ e=>by simp at e⟩
theorem CSound.start:CSound P anyWorld (tab noData []):=CSound.nil .none
theorem CSound.cons {l:List (Nat×Sp)} {f:FuncId} {sp:Sp} (h:CSound P G (tab D l)) (e:EntryOK P G f sp):CSound P G (tab D ((f,sp)::l)):=by
 refine ⟨h.stable,h.globs,h.looks,fun g args bs c v hs hc=> ?_,InlOK.none P G,MkOK.none P G⟩
 simp only [tabF] at hs
 split at hs
 · rename_i he
   have he':f=g:=by simpa using he
   subst he'
   obtain ⟨h1,h2⟩:=e.calls args c v hs hc
   exact ⟨h1,.inl ⟨e.fn,fun us ρ hr w hG _ _=>h2 us ρ hr w hG⟩⟩
 · exact h.calls g args bs c v hs hc
structure EntryX (P:Program) (G:World→Prop) (f:FuncId) (sp:Sp):Prop where
 calls:∀ args c v,sp args=some (c,v)→c.holds→v.names=[] ∧
  ∀ us ρ,RelAs ρ args us→∀ w,G w→∃ u w',(callFunc f us.toArray).run P w= .ok (.value u) w'∧RelA ρ v u∧Below w.heap.size w w'
theorem relA_any {ρ ρ':Nat→Loc} {v:AV} {u:Value} (h:RelA ρ v u) (hn:v.names=[]):RelA ρ' v u:=relA_agree h (by simp [hn])
theorem CSound.tabI {l:List (Nat×Sp)} (h:CSound P G (tab D l)) (hm:P.follows .mixedOrders=true) {fs:List (Nat×Func)} (hfs:FsOK P fs) (n:Nat):CSound P G (tabI P D l fs n):=
 h.inl' (inlN_sound h hm hfs n) .sym 0 0 [] []
def closed:List AV→Bool
 | []=>true
 | v::vs=>match v.names with
   | []=>closed vs
   | _=>false
theorem closed_spec:∀ {l:List AV},closed l=true→∀ v∈l,v.names=[]
 | [],_,v,hv=>by simp at hv
 | x::l,h,v,hv=>by
   simp only [closed] at h
   split at h
   · rename_i hx
     rcases List.mem_cons.1 hv with rfl | hv
     · exact hx
     · exact closed_spec h v hv
   · cases h
theorem EntryOK.of_F {C:Table} (hC:CSound P G C) (hm:P.follows .mixedOrders=true) {f:FuncId} {fn:Func} {sp:Sp} (hf:P.funcs[f]? =some fn)
 (hn:(fn.name== "runtime.NumGoroutine")=false) (hb:fn.body.isNone=false)
 (h:∀ args c v,sp args=some (c,v)→c.holds→v.names=[]∧closed args=true∧F P C fn args (fun r=>r=v)):EntryOK P G f sp:=by
 refine ⟨⟨fn,hf,hn,hb⟩,fun args c v hs hc=> ?_⟩
 obtain ⟨h1,h2,h3⟩:=h args c v hs hc
 refine ⟨h1,fun us ρ hrel w hG=> ?_⟩
 refine (F_sound hC hm hf h3 (closed_spec h2) hrel hG).mono ?_
 rintro e w' ⟨v',u,ρ',rfl,rfl,hr,hb⟩
 exact ⟨u,rfl,relA_any hr h1,hb⟩
theorem RelH.one {q:Loc} {T:TypeId} {ls:List L} {w:World} {cs:Array Value} {fr:Nat×Nat} (hw:w.heap[q.b]? =some (.cells cs T fr)) {us ws:List Value} (hd:cs.toList.drop q.o=us++ws) (hr:RelLs (fun _=>q) ls us) (hn:lnames ls=[]) :
 RelH w.heap.size w (fun _=>q) (look [(0,.ro T ls)]) w:=by
 have hlt:q.b<w.heap.size:=(Array.getElem?_eq_some_iff.1 hw).1
 have key:∀ i c,look [(0,Blk.ro T ls)] i=some c→c= .ro T ls∧i=0:=fun i c hi=>by
  rw [look_eq_beq] at hi
  split at hi
  · rename_i e;exact ⟨(Option.some.inj hi).symm,e.symm⟩
  · simp [look] at hi
 refine ⟨fun i c hi=> ?_,fun i c hi m hm=> ?_,fun i c hi=> ?_,fun i j c d hi hj ho _=> ?_,Below.refl _ _,Nat.le_refl _⟩
 · obtain ⟨rfl,-⟩:=key i c hi;exact ⟨cs,fr,hw,us,ws,hd,hr⟩
 · obtain ⟨rfl,-⟩:=key i c hi;rw [show (Blk.ro T ls).names=lnames ls from rfl,hn] at hm;simp at hm
 · obtain ⟨rfl,-⟩:=key i c hi;exact ⟨(fun h=>by cases h),fun _=>hlt⟩
 · obtain ⟨rfl,-⟩:=key i c hi;cases ho
theorem calls_of_FI {C:Table} (hC:CSound P G C) (hm:P.follows .mixedOrders=true) {f:FuncId} {fn:Func} (hf:P.funcs[f]? =some fn) {nm:Nat} {args:List AV} {h:List (Nat×Blk)} {v:AV}
 (hF:FI P C fn nm args h (fun r _=>r=v)) (hlt:∀ m,look h m≠none→m<nm) (hn:∀ v∈args,∀ m∈v.names,look h m≠none) (hv:v.names=[]) {ρ:Nat→Loc} {us:List Value} {w:World} (hG:G w)
 (hargs:RelAs ρ args us) (H:RelH w.heap.size w ρ (look h) w):Calls P f us.toArray w (fun e w'=>∃ u,e= .returned u∧(∀ ρ,RelA ρ v u)∧Below w.heap.size w w'):=by
 refine (FI_sound hC hm hf hF hlt hn w.heap.size w ρ us w hG rfl hargs H).mono ?_
 rintro e w' ⟨v',h',u,ρ',rfl,rfl,hr,-,H',-⟩
 exact ⟨u,rfl,fun ρ''=>relA_any hr hv,H'.below⟩
theorem vI_of (K:IntKind) (n:Int) (h:(Lit.int K n).wf=true):∃ x:BitVec K.bits,n=vI K.signed x:=by
 have hk:K.wrap n=n:=by
  simp only [Lit.wf] at h
  cases K<;>simp [IntKind.min,IntKind.max,IntKind.bits,IntKind.signed,IntKind.wrap] at h ⊢<;>omega
 exact ⟨BitVec.ofInt K.bits n,by rw [← wrap_vI,hk]⟩
end
noncomputable def pickA (l:List (Nat×AV)) (i:Nat):AV:=
 List.rec (motive:=fun _=>AV) (.one .junk) (fun p _ ih=>match p with
  | (j,v)=>match Nat.beq j i with
    | true=>v
    | false=>ih) l
noncomputable def mkT (n i:Nat) (l:List (Nat×AV)):List AV:=
 Nat.rec (motive:=fun _=>Nat→List AV) (fun _=>[]) (fun _ ih i=>pickA l i::ih (i + 1)) n i
noncomputable def mkS (n:Nat) (l:List (Nat×AV)) (h:List (Nat×Blk)):S:=⟨mkT n 0 l,h⟩
abbrev iN (k:Nat):AV:= .one (.b64 true (BitVec.ofNat 64 k))
theorem toInt_ofNat {n:Nat} (h:n<9223372036854775808):(BitVec.ofNat 64 n).toInt=(n:Int):=vI_len h
theorem toNat_ofNat {n:Nat} (h:n<18446744073709551616):(BitVec.ofNat 64 n).toNat=n:=by rw [BitVec.toNat_ofNat];omega
theorem slt_ofNat {k n:Nat} (hk:k<9223372036854775808) (hn:n<9223372036854775808):(BitVec.ofNat 64 k).slt (BitVec.ofNat 64 n)=decide (k<n):=by
 rw [BitVec.slt,toInt_ofNat hk,toInt_ofNat hn]
 exact decide_eq_decide.2 (by omega)
theorem succ_ofNat (k:Nat):BitVec.ofNat 64 k + 1#64=BitVec.ofNat 64 (k + 1):=(BitVec.ofNat_add k 1).symm
theorem iN_succ (k:Nat):AV.one (.b64 true (BitVec.ofNat 64 k + 1#64))=iN (k + 1):=by rw [succ_ofNat]
theorem slt_no {k n:Nat} (hk:k<9223372036854775808) (hn:n<9223372036854775808) (h:(BitVec.ofNat 64 k).slt (BitVec.ofNat 64 n)=false):n≤k:=by
 rw [slt_ofNat hk hn] at h;simpa using h
abbrev SpM:=List AV→List (Nat×Blk)→Option (Cond×AV)
def tabG:List (Nat×SpM)→FuncId→List AV→List (Nat×Blk)→Option (Cond×AV)→Option (Cond×AV)
 | [],_,_,_,d=>d
 | (g,sp)::r,f,args,bs,d=>match Nat.beq g f with
   | true=>sp args bs
   | false=>tabG r f args bs d
abbrev tabM (D:VData) (l:List (Nat×Sp)) (ms:List (Nat×SpM)):Table:=⟨fun f args bs=>tabG ms f args bs (tabF l f args),D.glob,D.look,fun _ _ _ _ _=>Stuck "call",.sym,0,0,[],fun _ _ _=>none,[]⟩
abbrev tabMI (P:Program) (D:VData) (l:List (Nat×Sp)) (ms:List (Nat×SpM)) (fs:List (Nat×Func)) (n:Nat):Table:=withInl (tabM D l ms) (inlN P (tabM D l ms) fs n)
def mapOf:Blk→Option (List (BitVec 64×BitVec 64))
 | .imap es=>some es
 | .romap es=>some es
 | _=>none
def lastA:List AV→Option (List AV×AV)
 | []=>none
 | x::r=>match r with
   | []=>some ([],x)
   | _::_=>match lastA r with
     | some (p,l)=>some (x::p,l)
     | none=>none
def spM (sp:Sp):SpM:=fun args bs=>match bs with
 | [(j,b)]=>match mapOf b with
   | some _=>match lastA args with
     | some (pre,.one (.imap i))=>match Nat.beq j i with
       | true=>sp pre
       | false=>none
     | _=>none
   | none=>none
 | _=>none
theorem lastA_eq:∀ {l:List AV} {p:List AV} {x:AV},lastA l=some (p,x)→l=p++[x]
 | [],_,_,h=>by cases h
 | y::r,p,x,h=>by
   simp only [lastA] at h
   split at h
   · simp only [Option.some.injEq,Prod.mk.injEq] at h
     obtain ⟨rfl,rfl⟩:=h
     rfl
   · split at h
     · rename_i q l hq
       simp only [Option.some.injEq,Prod.mk.injEq] at h
       obtain ⟨rfl,rfl⟩:=h
       rw [lastA_eq hq];rfl
     · cases h
structure EntryM (P:Program) (G:World→Prop) (f:FuncId) (sp:SpM):Prop where
 fn:∃ fn,P.funcs[f]? =some fn∧(fn.name== "runtime.NumGoroutine")=false∧fn.body.isNone=false
 calls:∀ args bs c v,sp args bs=some (c,v)→c.holds→v.names=[] ∧
  ∀ us ρ,RelAs ρ args us→∀ w,G w→RelBs ρ bs w→(∀ p∈bs,(ρ p.1).b<w.heap.size)→Calls P f us.toArray w (fun e w'=>∃ u,e= .returned u∧RelA ρ v u∧Below w.heap.size w w')
section
variable {P : Program} {G : World → Prop} {D : VData}
theorem CSound.consM {l:List (Nat×Sp)} {ms:List (Nat×SpM)} {g:Nat} {sp:SpM} (h:CSound P G (tabM D l ms)) (e:EntryM P G g sp):CSound P G (tabM D l ((g,sp)::ms)):=by
 refine ⟨h.stable,h.globs,h.looks,fun f args bs c v hs hc=> ?_,InlOK.none P G,MkOK.none P G⟩
 simp only [tabG] at hs
 split at hs
 · rename_i he
   have he':g=f:=by simpa using he
   subst he'
   obtain ⟨h1,h2⟩:=e.calls args bs c v hs hc
   exact ⟨h1,.inl ⟨e.fn,h2⟩⟩
 · exact h.calls f args bs c v hs hc
theorem CSound.startM {l:List (Nat×Sp)} (h:CSound P G (tab D l)):CSound P G (tabM D l []):=h
theorem CSound.tabMI {l:List (Nat×Sp)} {ms:List (Nat×SpM)} (h:CSound P G (tabM D l ms)) (hm:P.follows .mixedOrders=true) {fs:List (Nat×Func)} (hfs:FsOK P fs) (n:Nat):CSound P G (tabMI P D l ms fs n):=
 h.inl' (inlN_sound h hm hfs n) .sym 0 0 [] []
theorem EntryOK.up {f:FuncId} {sp:Sp} (e:EntryOK P G f sp):EntryM P G f (fun args _=>sp args):=⟨e.fn,fun args bs c v hs hc=>⟨(e.calls args c v hs hc).1,fun us ρ hr w hG _ _=>(e.calls args c v hs hc).2 us ρ hr w hG⟩⟩
theorem relAs_snoc {ρ:Nat→Loc}:∀ {pre:List AV} {x:AV} {us:List Value},RelAs ρ (pre++[x]) us→∃ us1 u,us=us1++[u]∧RelAs ρ pre us1∧RelA ρ x u
 | [],_,[],h=>h.elim
 | [],_,u::us,h=>by
   obtain ⟨h1,h2⟩:=h
   cases us with
   | nil=>exact ⟨[],u,rfl,trivial,h1⟩
   | cons _ _=>exact h2.elim
 | _::_,_,[],h=>h.elim
 | p::pre,_,u::us,h=>by
   obtain ⟨h1,h2⟩:=h
   obtain ⟨us1,u',rfl,h3,h4⟩:=relAs_snoc h2
   exact ⟨u::us1,u',rfl,⟨h1,h3⟩,h4⟩
theorem relAs_snoc_mk {ρ:Nat→Loc}:∀ {pre:List AV} {x:AV} {us1:List Value} {u:Value},RelAs ρ pre us1→RelA ρ x u→RelAs ρ (pre++[x]) (us1++[u])
 | [],_,[],_,_,h=>⟨h,trivial⟩
 | [],_,_::_,_,h,_=>h.elim
 | _::_,_,[],_,h,_=>h.elim
 | _::_,_,_::_,_,h,h'=>⟨h.1,relAs_snoc_mk h.2 h'⟩
theorem relAs_any {ρ ρ':Nat→Loc}:∀ {l:List AV} {us:List Value},(∀ v∈l,v.names=[])→RelAs ρ l us→RelAs ρ' l us
 | [],[],_,_=>trivial
 | [],_::_,_,h=>h.elim
 | _::_,[],_,h=>h.elim
 | v::l,u::us,hn,h=>⟨relA_any h.1 (hn v (by simp)),relAs_any (fun v hv=>hn v (by simp [hv])) h.2⟩
theorem RelH.romap {ρ:Nat→Loc} {q:Loc} {w:World} {es:List (BitVec 64×BitVec 64)} (h:RelB ρ q (.romap es) w.heap[q.b]?) (hlt:q.b<w.heap.size):RelH w.heap.size w (fun _=>q) (look [(0,.romap es)]) w:=by
 have key:∀ i c,look [(0,Blk.romap es)] i=some c→c= .romap es∧i=0:=fun i c hi=>by
  rw [look_eq_beq] at hi
  split at hi
  · rename_i e;exact ⟨(Option.some.inj hi).symm,e.symm⟩
  · simp [look] at hi
 refine ⟨fun i c hi=> ?_,fun i c hi m hm=> ?_,fun i c hi=> ?_,fun i j c d hi hj ho _=> ?_,Below.refl _ _,Nat.le_refl _⟩
 · obtain ⟨rfl,-⟩:=key i c hi;exact h
 · obtain ⟨rfl,-⟩:=key i c hi;simp [Blk.names] at hm
 · obtain ⟨rfl,-⟩:=key i c hi;exact ⟨(fun h=>by cases h),fun _=>hlt⟩
 · obtain ⟨rfl,-⟩:=key i c hi;cases ho
theorem EntryM.of_FI {C:Table} (hC:CSound P G C) (hm:P.follows .mixedOrders=true) {f:FuncId} {fn:Func} {sp:Sp} (hf:P.funcs[f]? =some fn)
 (hn:(fn.name== "runtime.NumGoroutine")=false) (hb:fn.body.isNone=false)
 (h:∀ pre c v es,sp pre=some (c,v)→c.holds→closed pre=true∧v.names=[]∧FI P C fn 1 (pre++[.one (.imap 0)]) [(0,.romap es)] (fun r _=>r=v)):EntryM P G f (spM sp):=by
 refine ⟨⟨fn,hf,hn,hb⟩,fun args bs c v hs hc=> ?_⟩
 unfold spM at hs
 split at hs
 · rename_i j b
   split at hs
   · rename_i es hes
     split at hs
     · rename_i pre i hl
       split at hs
       · rename_i hj
         obtain rfl:j=i:=by simpa using hj
         obtain rfl:=lastA_eq hl
         obtain ⟨h1,h2,h3⟩:=h pre c v es hs hc
         refine ⟨h2,fun us ρ hrel w hG hB hlt=> ?_⟩
         obtain ⟨us1,u,rfl,h4,h5⟩:=relAs_snoc hrel
         have hcl:=closed_spec h1
         have hB':RelB ρ (ρ j) (.romap es) w.heap[(ρ j).b]? :=by
          have:=hB (j,b) (by simp)
          cases b<;>simp [mapOf] at hes<;>subst hes<;>exact this
         have hq:(ρ j).b<w.heap.size:=hlt (j,b) (by simp)
         have hu:RelA (fun _=>ρ j) (.one (.imap 0)) u:=fun _=>h5 (by simp)
         refine (calls_of_FI hC hm hf h3 (fun m hm=> ?_) (fun v hv m hm=> ?_) h2 hG (relAs_snoc_mk (relAs_any hcl h4) hu) (RelH.romap (ρ:=ρ) hB' hq)).mono ?_
         · rw [look_eq_beq] at hm
           split at hm
           · rename_i e;omega
           · simp [look] at hm
         · rcases List.mem_append.1 hv with hv | hv
           · rw [hcl v hv] at hm;simp at hm
           · obtain rfl:v= .one (.imap 0):=by simpa using hv
             obtain rfl:m=0:=by simpa [AV.names,L.names] using hm
             rw [look_eq_beq];simp
         · rintro e w' ⟨u',rfl,h6,h7⟩
           exact ⟨u',rfl,h6 ρ,h7⟩
       · cases hs
     · cases hs
   · cases hs
 · cases hs
end
abbrev SpK:=List AV→List (Nat×Blk)→Option (Cond×Blk×NewV)
def tabK:List (Nat×SpK)→FuncId→List AV→List (Nat×Blk)→Option (Cond×Blk×NewV)
 | [],_,_,_=>none
 | (g,sp)::r,f,args,bs=>match Nat.beq g f with
   | true=>sp args bs
   | false=>tabK r f args bs
def namesK:List (Nat×SpK)→List Nat
 | []=>[]
 | (g,_)::r=>g::namesK r
abbrev withMk (C:Table) (l:List (Nat×SpK)):Table:=⟨C.fn,C.glob,C.look,C.inl,C.app,C.nm,C.tp,C.im,tabK l,namesK l⟩
structure EntryK (P:Program) (G:World→Prop) (f:FuncId) (sp:SpK):Prop where
 fn:∃ fn,P.funcs[f]? =some fn∧(fn.name== "runtime.NumGoroutine")=false∧fn.body.isNone=false
 calls:∀ args bs c b nv,sp args bs=some (c,b,nv)→c.holds→b.own=true∧b.names=[] ∧
  ∀ us ρ,RelAs ρ args us→∀ w,G w→RelBs ρ bs w→(∀ p∈bs,(ρ p.1).b<w.heap.size)→Calls P f us.toArray w (fun e w'=>∃ u q,e= .returned u∧RelL (fun _=>q) (nv.at 0) u∧RelB ρ q b w'.heap[q.b]? ∧w.heap.size≤q.b∧Below w.heap.size w w')
inductive EntriesK (P:Program) (G:World→Prop):List (Nat×SpK)→Prop
 | nil:EntriesK P G []
 | cons {f:Nat} {sp:SpK} {l:List (Nat×SpK)} (e:EntryK P G f sp) (h:EntriesK P G l):EntriesK P G ((f,sp)::l)
section
variable {P : Program} {G : World → Prop} {D : VData}
theorem EntriesK.ok:∀ {l:List (Nat×SpK)},EntriesK P G l→MkOK P G (tabK l)
 | [],_=>fun _ _ _ _ _ _ h=>by cases h
 | (g,sp)::l,.cons e h=>fun f args bs c b nv hs hc=>by
   simp only [tabK] at hs
   split at hs
   · rename_i he
     have he':g=f:=by simpa using he
     subst he'
     obtain ⟨h1,h2,h3⟩:=e.calls args bs c b nv hs hc
     exact ⟨h1,h2,e.fn,h3⟩
   · exact EntriesK.ok h f args bs c b nv hs hc
theorem CSound.withMk {C:Table} (h:CSound P G C) {l:List (Nat×SpK)} (hl:EntriesK P G l):CSound P G (withMk C l):=⟨h.stable,h.globs,h.looks,h.calls,h.inl,hl.ok⟩
theorem nv_of {ρ:Nat→Loc} {nv:NewV} {d:Nat} {u:Value} (h:RelL ρ (nv.at d) u):RelL (fun _=>ρ d) (nv.at 0) u:=by
 intro _
 have:=h (by cases nv<;>simp [NewV.at])
 rw [this]
 cases nv<;>simp [NewV.at,gL]
theorem EntryK.of_FI {C:Table} (hC:CSound P G C) (hm:P.follows .mixedOrders=true) {f:FuncId} {fn:Func} {sp:SpK} (hf:P.funcs[f]? =some fn)
 (hn:(fn.name== "runtime.NumGoroutine")=false) (hb:fn.body.isNone=false)
 (h:∀ args bs c b nv,sp args bs=some (c,b,nv)→c.holds→closed args=true∧b.own=true∧b.names=[]∧FI P C fn 0 args [] (fun v h=>∃ x,v= .one (nv.at x)∧look h x=some b)):EntryK P G f sp:=by
 refine ⟨⟨fn,hf,hn,hb⟩,fun args bs c b nv hs hc=> ?_⟩
 obtain ⟨h1,h2,h3,h4⟩:=h args bs c b nv hs hc
 refine ⟨h2,h3,fun us ρ hrel w hG _ _=>(FI_sound hC hm hf h4 (fun m hm=>by simp [look] at hm) (fun v hv m hm=>by rw [closed_spec h1 v hv] at hm;simp at hm) w.heap.size w ρ us w hG rfl hrel
  ⟨fun i b hi=>by simp [look] at hi,fun i b hi=>by simp [look] at hi,fun i c hi=>by simp [look] at hi,fun i j c d hi=>by simp [look] at hi,Below.refl _ _,Nat.le_refl _⟩).mono ?_⟩
 rintro e w' ⟨v,h',u,ρ',⟨x,rfl,hx⟩,rfl,hr,-,H,-⟩
 exact ⟨u,ρ' x,rfl,nv_of hr,relB_agree (H.heap x b hx) (by rw [h3];simp),(H.low x b hx).1 h2,H.below⟩
def rowOf (z:Nat):Blk→Option (Nat×(Nat→List PL))
 | .ro _ [.seg z' n f]=>match Nat.beq z z' with
   | true=>some (n,f)
   | false=>none
 | .row _ z' n f=>match Nat.beq z z' with
   | true=>some (n,f)
   | false=>none
 | _=>none
def spS (z:Nat) (sq:Nat→(Nat→List PL)→List AV→Option (Cond×AV)):SpM:=fun args bs=>match args with
 | .one (.slc i 0 len _)::rest=>match bs with
   | [(j,b)]=>match Nat.beq i j,rowOf z b with
     | true,some (n,f)=>match sq len f rest with
       | some (c,v)=>some (bothC (.p (len≤n)) c,v)
       | none=>none
     | _,_=>none
   | _=>none
 | .one (.rsl i len)::rest=>match bs with
   | [(j,b)]=>match Nat.beq i j,rowOf z b with
     | true,some (n,f)=>match sq len f rest with
       | some (c,v)=>some (bothC (.p (len≤n)) c,v)
       | none=>none
     | _,_=>none
   | _=>none
 | .one (.raw (.slice _ 0 _))::rest=>sq 0 (fun _=>[]) rest
 | _=>none
theorem rowOf_rel {z n:Nat} {f:Nat→List PL} {b:Blk} (h:rowOf z b=some (n,f)) {ρ:Nat→Loc} {q:Loc} {o:Option Obj} (hb:RelB ρ q b o) :
 ∃ (cs:Array Value) (T:TypeId) (fr:Nat×Nat),o=some (.cells cs T fr)∧∃ us ws,cs.toList.drop q.o=us++ws∧SegV z n f us:=by
 unfold rowOf at h
 split at h
 · rename_i T z' n' f'
   split at h
   · rename_i hz
     obtain rfl:z=z':=by simpa using hz
     simp only [Option.some.injEq,Prod.mk.injEq] at h
     obtain ⟨rfl,rfl⟩:=h
     obtain ⟨cs,fr,e,us,ws,h0,h1⟩:=hb
     obtain ⟨u1,w1,h2,h3,h4⟩:=h1
     obtain rfl:w1=[]:=h4
     exact ⟨cs,T,fr,e,u1,ws,by rw [h0,h2,List.append_nil],h3⟩
   · cases h
 · rename_i T z' n' f'
   split at h
   · rename_i hz
     obtain rfl:z=z':=by simpa using hz
     simp only [Option.some.injEq,Prod.mk.injEq] at h
     obtain ⟨rfl,rfl⟩:=h
     obtain ⟨cs,e,h0,h1,h2,h3,h4⟩:=hb
     exact ⟨cs,T,(0,0),e,_,cs.toList.drop (z*n'),by rw [h0];simp,h4⟩
   · cases h
 · cases h
theorem EntryM.of_slice {C:Table} (hC:CSound P G C) (hm:P.follows .mixedOrders=true) {f:FuncId} {fn:Func} {z:Nat} {sq:Nat→(Nat→List PL)→List AV→Option (Cond×AV)} (hf:P.funcs[f]? =some fn)
 (hn:(fn.name== "runtime.NumGoroutine")=false) (hb:fn.body.isNone=false)
 (h:∀ len g rest c v,sq len g rest=some (c,v)→c.holds→closed rest=true∧v.names=[]∧∀ (T:TypeId) (cap:Nat),FI P C fn 1 (.one (.slc 0 0 len cap)::rest) [(0,.ro T [.seg z len g])] (fun r _=>r=v))
 (h0:∀ rest c v,sq 0 (fun _=>[]) rest=some (c,v)→c.holds→∀ (ad:Option Addr) (cap:Nat),FI P C fn 1 (.one (.raw (.slice ad 0 cap))::rest) [] (fun r _=>r=v)):EntryM P G f (spS z sq):=by
 have key:∀ {i len n:Nat} {b:Blk} {g:Nat→List PL} {rest:List AV} {c:Cond} {v:AV} {us:List Value} {ρ:Nat→Loc} {w:World} {cap:Nat},rowOf z b=some (n,g)→sq len g rest=some (c,v)→len≤n→c.holds →
  RelAs ρ rest us→G w→RelB ρ (ρ i) b w.heap[(ρ i).b]? →Calls P f (.slice (some ⟨(ρ i).b,(ρ i).o,none⟩) len cap::us).toArray w (fun e w'=>∃ u,e= .returned u∧(∀ ρ,RelA ρ v u)∧Below w.heap.size w w'):=by
  intro i len n b g rest c v us ρ w cap hr hs hle hc hrel hG hB
  obtain ⟨hcl,hv,hF⟩:=h len g rest c v hs hc
  obtain ⟨cs,T,fr,e,us1,ws,hd,hseg⟩:=rowOf_rel hr hB
  have hcl':=closed_spec hcl
  have hle':z*len≤z*n:=Nat.mul_le_mul_left z hle
  refine calls_of_FI hC hm hf (hF T cap) (fun m hm=> ?_) (fun v hv m hm=> ?_) hv hG (us:= .slice (some ⟨(ρ i).b,(ρ i).o,none⟩) len cap::us) (ρ:=fun _=>ρ i) ⟨fun _=>by simp [gL],relAs_any hcl' hrel⟩
   (RelH.one (q:=ρ i) (T:=T) (us:=us1.take (z*len)) (ws:=us1.drop (z*len)++ws) e (by rw [hd,← List.append_assoc,List.take_append_drop]) ⟨_,[],by simp,hseg.take hle,rfl⟩ rfl)
  · rw [look_eq_beq] at hm
    split at hm
    · rename_i e;omega
    · simp [look] at hm
  · rcases List.mem_cons.1 hv with rfl | hv
    · obtain rfl:m=0:=by simpa [AV.names,L.names] using hm
      rw [look_eq_beq];simp
    · rw [hcl' v hv] at hm;simp at hm
 refine ⟨⟨fn,hf,hn,hb⟩,fun args bs c v hs hc=> ?_⟩
 unfold spS at hs
 split at hs
 · rename_i i len cap rest
   split at hs
   · rename_i j b
     split at hs
     · rename_i n g hij hr
       obtain rfl:i=j:=by simpa using hij
       split at hs
       · rename_i c' v' hsq
         simp only [Option.some.injEq,Prod.mk.injEq] at hs
         obtain ⟨rfl,rfl⟩:=hs
         obtain ⟨hle,hc'⟩:=bothC_holds hc
         refine ⟨(h len g rest c' v' hsq hc').2.1,fun us ρ hrel w hG hB hlt=> ?_⟩
         match us,hrel with
         | u::us,⟨h1,h2⟩=>
           have h1:=h1 (by simp)
           simp only [gL,Nat.add_zero] at h1
           subst h1
           exact (key hr hsq hle hc' h2 hG (hB (i,b) (by simp))).mono fun e w' ⟨u,h3,h4,h5⟩=>⟨u,h3,h4 ρ,h5⟩
       · cases hs
     · cases hs
   · cases hs
 · rename_i i len rest
   split at hs
   · rename_i j b
     split at hs
     · rename_i n g hij hr
       obtain rfl:i=j:=by simpa using hij
       split at hs
       · rename_i c' v' hsq
         simp only [Option.some.injEq,Prod.mk.injEq] at hs
         obtain ⟨rfl,rfl⟩:=hs
         obtain ⟨hle,hc'⟩:=bothC_holds hc
         refine ⟨(h len g rest c' v' hsq hc').2.1,fun us ρ hrel w hG hB hlt=> ?_⟩
         match us,hrel with
         | u::us,⟨h1,h2⟩=>
           have h1:=h1 (by simp)
           simp only [gL] at h1
           subst h1
           exact (key hr hsq hle hc' h2 hG (hB (i,b) (by simp))).mono fun e w' ⟨u,h3,h4,h5⟩=>⟨u,h3,h4 ρ,h5⟩
       · cases hs
     · cases hs
   · cases hs
 · rename_i ad cap rest
   obtain ⟨hcl,hv,_⟩:=h 0 _ rest c v hs hc
   refine ⟨hv,fun us ρ hrel w hG hB hlt=> ?_⟩
   match us,hrel with
   | u::us,⟨h1,h2⟩=>
     have h1:=h1 (by simp)
     simp only [gL] at h1
     subst h1
     have hcl':=closed_spec hcl
     refine (calls_of_FI hC hm hf (h0 rest c v hs hc ad cap) (fun m hm=>by simp [look] at hm) (fun v hv m hm=> ?_) hv hG (us:= .slice ad 0 cap::us) (ρ:=ρ) ⟨fun _=>rfl,h2⟩
      ⟨fun i b hi=>by simp [look] at hi,fun i b hi=>by simp [look] at hi,fun i c hi=>by simp [look] at hi,fun i j c d hi=>by simp [look] at hi,Below.refl _ _,Nat.le_refl _⟩).mono fun e w' ⟨u,h3,h4,h5⟩=>⟨u,h3,h4 ρ,h5⟩
     rcases List.mem_cons.1 hv with rfl | hv
     · simp [AV.names,L.names] at hm
     · rw [hcl' v hv] at hm;simp at hm
 · cases hs
end
end Go.Ep
