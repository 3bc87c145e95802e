/- HardenSame: the document's world, made, its blocks in other forms. Conditions: as typed. -/
import Derived.Test.YthkgakelgdncjaaDoorMq
import Derived.Test.YthkgakelgdncjaaDoorVb
import Derived.Test.YthkgakelgdncjaaDoorHq
import Derived.Test.YthkgakelgdncjaaDoorMj
namespace Go.Ep
open Go.RowKit
set_option linter.unusedVariables false
set_option linter.unusedSimpArgs false
structure BW (b b':Blk):Prop where
 own:b'.own=b.own
 names:b'.names=b.names
 rel:∀ (ρ:Nat→Loc) (q:Loc) (o:Option Obj),RelB ρ q b o→RelB ρ q b' o
theorem BW.rfl' {b:Blk}:BW b b:=⟨rfl,rfl,fun _ _ _ h=>h⟩
inductive BWs:List Blk→List Blk→Prop
 | nil:BWs [] []
 | cons {b b':Blk} {l l':List Blk} (h:BW b b') (t:BWs l l'):BWs (b::l) (b'::l')
theorem BWs.len:∀ {l l':List Blk},BWs l l'→l'.length=l.length
 | _,_,.nil=>rfl
 | _,_,.cons _ t=>congrArg (· + 1) t.len
theorem BWs.get:∀ {l l':List Blk},BWs l l'→∀ {j:Nat} {c:Blk},l'[j]? =some c→∃ b,l[j]? =some b∧BW b c
 | _,_,.nil,j,c,h=>by simp at h
 | _,_,.cons h0 t,0,c,h=>by
   simp only [List.getElem?_cons_zero,Option.some.injEq] at h
   subst h
   exact ⟨_,rfl,h0⟩
 | _,_,.cons h0 t,j + 1,c,h=>by
   rw [List.getElem?_cons_succ] at h ⊢
   exact t.get h
theorem BWs.look {l l':List Blk} (t:BWs l l') {ch:List (Nat×Blk)} {i:Nat} {c:Blk} (h:lookN ch l' i=some c):∃ b,lookN ch l i=some b∧BW b c:=by
 unfold lookN at h ⊢
 cases hd:Ep.look ch i with
 | some d=>rw [hd] at h;cases h;exact ⟨_,rfl,BW.rfl'⟩
 | none=>
   rw [hd] at h
   dsimp only at h ⊢
   split at h
   · rename_i hl
     rw [if_pos hl]
     exact t.get h
   · cases h
theorem BWs.none {l l':List Blk} (t:BWs l l') {ch:List (Nat×Blk)} {i:Nat} (h:lookN ch l i≠none):lookN ch l' i≠none:=by
 unfold lookN at h ⊢
 cases hd:Ep.look ch i with
 | some d=>simp
 | none=>
   rw [hd] at h
   dsimp only at h ⊢
   split at h
   · rename_i hl
     rw [if_pos hl]
     have:i - ch.length<l.length:=by
      rcases Nat.lt_or_ge (i - ch.length) l.length with g | g
      · exact g
      · exact absurd (List.getElem?_eq_none g) h
     rw [List.getElem?_eq_getElem (by rw [t.len];exact this)]
     simp
   · exact absurd rfl h
section
variable {P : Program} {G : World → Prop}
theorem EntryN.weak {f:FuncId} {sp sp':SpN} (he:EntryN P G f sp) (hs:∀ args ch c v fr',sp' args ch=some (c,v,fr')→∃ c0 fr,sp args ch=some (c0,v,fr)∧(c.holds→c0.holds)∧BWs fr fr'):EntryN P G f sp':=by
 refine ⟨he.fn,fun args ch c v fr' hsp hc=> ?_⟩
 obtain ⟨c0,fr,h1,h2,hw⟩:=hs args ch c v fr' hsp
 intro q1 q2 q3 b w0 ρ us w hG hb hrel H
 refine (he.calls args ch c0 v fr h1 (h2 hc) q1 q2 q3 b w0 ρ us w hG hb hrel H).mono ?_
 rintro e w' ⟨u,ρ',e1,e2,H',e3,e4,e5,e6⟩
 refine ⟨u,ρ',e1,e2,⟨fun i c hi=> ?_,fun i c hi m hm=> ?_,fun i c hi=> ?_,fun i j c d hi hj ho e=> ?_,H'.below,H'.base⟩,e3,e4,e5,fun j c hj=> ?_⟩
 · obtain ⟨b0,g1,g2⟩:=hw.look hi
   exact g2.rel _ _ _ (H'.heap i b0 g1)
 · obtain ⟨b0,g1,g2⟩:=hw.look hi
   rw [g2.names] at hm
   exact hw.none (H'.namesH i b0 g1 m hm)
 · obtain ⟨b0,g1,g2⟩:=hw.look hi
   rw [g2.own];exact H'.low i b0 g1
 · obtain ⟨b0,g1,g2⟩:=hw.look hi
   obtain ⟨b1,g3,g4⟩:=hw.look hj
   rw [g2.own] at ho
   exact H'.inj i j b0 b1 g1 g3 ho e
 · obtain ⟨b0,g1,-⟩:=hw.get hj
   exact e6 j b0 g1
end
theorem BW.row {T:TypeId} {z n:Nat} {f g:Nat→List PL} (h:∀ k,k<n→f k=g k):BW (.row T z n f) (.row T z n g):=
 ⟨rfl,rfl,fun ρ q o ⟨cs,e,h0,h1,h2,h3,h4,h5⟩=>⟨cs,e,h0,h1,h2,h3,h4,fun k hk=>by rw [← h k hk];exact h5 k hk⟩⟩
theorem relL_rsc {ρ:Nat→Loc} {i n:Nat} {v:Value} (h:RelL ρ (.rsl i n) v):RelL ρ (.rsc i 1 0 0 n) v:=fun _=>by
 rw [h (by simp)]
 simp [gL]
theorem BW.draws {T:TypeId} {a b c d e:L} {i n:Nat}:BW (.cells T [a,b,c,d,e,.rsl i n]) (.cells T [a,b,c,d,e,.rsc i 1 0 0 n]):=by
 refine ⟨rfl,rfl,fun ρ q o ⟨cs,e0,h0,h⟩=>⟨cs,e0,h0,?_⟩⟩
 obtain ⟨u1,r1,g1,k1,u2,r2,g2,k2,u3,r3,g3,k3,u4,r4,g4,k4,u5,r5,g5,k5,u6,r6,g6,k6,g7⟩:=h
 refine ⟨u1,r1,g1,k1,u2,r2,g2,k2,u3,r3,g3,k3,u4,r4,g4,k4,u5,r5,g5,k5,u6,r6,g6,?_,g7⟩
 obtain ⟨v,rfl,hv⟩:=(relI_one (by rfl)).1 k6
 exact (relI_one (by rfl)).2 ⟨v,rfl,relL_rsc hv⟩
end Go.Ep
namespace Go.Proofs.YthkgakelgdncjaaDoor
open Go.Ep Go.RowKit
set_option linter.unusedVariables false
set_option linter.unusedSimpArgs false
noncomputable def newV (nm:Nat) (pe de:Bool) (pk:ByteArray) (mk:BitVec 64) (R:RT) (X:Nat→BitVec 64) (nd:Nat):List Blk:=match nm,pe,de with
 | 0,false,false=>[.cells 73 [.raw (.slice none 0 0),.b64 true (BitVec.ofNat 64 pk.size),.rsl 3 4,.ptr 4 0,.ptr 6 0,.rsc 7 1 0 0 nd],.row 76 3 4 (rgF (ownR 0 false pk mk)),.cells 109 [.rsl 5 5],.row 76 3 5 (rgF R),.cells 114 [.raw (.slice none 0 0),.raw (.slice none 0 0),.ptr 4 0],.row 31 1 nd (uF X)]
 | 0,false,true=>[.cells 73 [.raw (.slice none 0 0),.b64 true (BitVec.ofNat 64 pk.size),.rsl 2 4,.ptr 3 0,.ptr 5 0,.raw (.slice none 0 0)],.row 76 3 4 (rgF (ownR 0 false pk mk)),.cells 109 [.rsl 4 5],.row 76 3 5 (rgF R),.cells 114 [.raw (.slice none 0 0),.raw (.slice none 0 0),.ptr 3 0]]
 | 0,true,false=>[.cells 73 [.raw (.slice none 0 0),.b64 true (BitVec.ofNat 64 0),.rsl 3 3,.ptr 4 0,.ptr 6 0,.rsc 7 1 0 0 nd],.row 76 3 3 (rgF (ownR 0 true { data:=#[] } mk)),.cells 109 [.rsl 5 4],.row 76 3 4 (rgF R),.cells 114 [.raw (.slice none 0 0),.raw (.slice none 0 0),.ptr 4 0],.row 31 1 nd (uF X)]
 | 0,true,true=>[.cells 73 [.raw (.slice none 0 0),.b64 true (BitVec.ofNat 64 0),.rsl 2 3,.ptr 3 0,.ptr 5 0,.raw (.slice none 0 0)],.row 76 3 3 (rgF (ownR 0 true { data:=#[] } mk)),.cells 109 [.rsl 4 4],.row 76 3 4 (rgF R),.cells 114 [.raw (.slice none 0 0),.raw (.slice none 0 0),.ptr 3 0]]
 | 1,false,false=>[.cells 73 [.rsl 10 1,.b64 true (BitVec.ofNat 64 pk.size),.rsl 3 5,.ptr 4 0,.ptr 6 0,.rsc 11 1 0 0 nd],.row 76 3 5 (rgF (ownR 1 false pk mk)),.cells 109 [.rsl 5 6],.row 76 3 6 (rgF R),.cells 114 [.rsl 7 1,.rsl 8 1,.ptr 4 0],.row 64 4 1 mapF1,.vec 115 [.rsl 9 2],.row 9 1 2 (sF keys0),.row 64 4 1 mapF1,.row 31 1 nd (uF X)]
 | 1,false,true=>[.cells 73 [.rsl 9 1,.b64 true (BitVec.ofNat 64 pk.size),.rsl 2 5,.ptr 3 0,.ptr 5 0,.raw (.slice none 0 0)],.row 76 3 5 (rgF (ownR 1 false pk mk)),.cells 109 [.rsl 4 6],.row 76 3 6 (rgF R),.cells 114 [.rsl 6 1,.rsl 7 1,.ptr 3 0],.row 64 4 1 mapF1,.vec 115 [.rsl 8 2],.row 9 1 2 (sF keys0),.row 64 4 1 mapF1]
 | 1,true,false=>[.cells 73 [.rsl 10 1,.b64 true (BitVec.ofNat 64 0),.rsl 3 4,.ptr 4 0,.ptr 6 0,.rsc 11 1 0 0 nd],.row 76 3 4 (rgF (ownR 1 true { data:=#[] } mk)),.cells 109 [.rsl 5 5],.row 76 3 5 (rgF R),.cells 114 [.rsl 7 1,.rsl 8 1,.ptr 4 0],.row 64 4 1 mapF1,.vec 115 [.rsl 9 2],.row 9 1 2 (sF keys0),.row 64 4 1 mapF1,.row 31 1 nd (uF X)]
 | 1,true,true=>[.cells 73 [.rsl 9 1,.b64 true (BitVec.ofNat 64 0),.rsl 2 4,.ptr 3 0,.ptr 5 0,.raw (.slice none 0 0)],.row 76 3 4 (rgF (ownR 1 true { data:=#[] } mk)),.cells 109 [.rsl 4 5],.row 76 3 5 (rgF R),.cells 114 [.rsl 6 1,.rsl 7 1,.ptr 3 0],.row 64 4 1 mapF1,.vec 115 [.rsl 8 2],.row 9 1 2 (sF keys0),.row 64 4 1 mapF1]
 | 2,false,false=>[.cells 73 [.rsl 11 2,.b64 true (BitVec.ofNat 64 pk.size),.rsl 3 6,.ptr 4 0,.ptr 6 0,.rsc 12 1 0 0 nd],.row 76 3 6 (rgF (ownR 2 false pk mk)),.cells 109 [.rsl 5 7],.row 76 3 7 (rgF R),.cells 114 [.rsl 7 2,.rsl 8 2,.ptr 4 0],.row 64 4 2 mapF2,.vec 115 [.rsl 9 2,.rsl 10 3],.row 9 1 2 (sF keys0),.row 9 1 3 (sF keys1),.row 64 4 2 mapF2,.row 31 1 nd (uF X)]
 | 2,false,true=>[.cells 73 [.rsl 10 2,.b64 true (BitVec.ofNat 64 pk.size),.rsl 2 6,.ptr 3 0,.ptr 5 0,.raw (.slice none 0 0)],.row 76 3 6 (rgF (ownR 2 false pk mk)),.cells 109 [.rsl 4 7],.row 76 3 7 (rgF R),.cells 114 [.rsl 6 2,.rsl 7 2,.ptr 3 0],.row 64 4 2 mapF2,.vec 115 [.rsl 8 2,.rsl 9 3],.row 9 1 2 (sF keys0),.row 9 1 3 (sF keys1),.row 64 4 2 mapF2]
 | 2,true,false=>[.cells 73 [.rsl 11 2,.b64 true (BitVec.ofNat 64 0),.rsl 3 5,.ptr 4 0,.ptr 6 0,.rsc 12 1 0 0 nd],.row 76 3 5 (rgF (ownR 2 true { data:=#[] } mk)),.cells 109 [.rsl 5 6],.row 76 3 6 (rgF R),.cells 114 [.rsl 7 2,.rsl 8 2,.ptr 4 0],.row 64 4 2 mapF2,.vec 115 [.rsl 9 2,.rsl 10 3],.row 9 1 2 (sF keys0),.row 9 1 3 (sF keys1),.row 64 4 2 mapF2,.row 31 1 nd (uF X)]
 | 2,true,true=>[.cells 73 [.rsl 10 2,.b64 true (BitVec.ofNat 64 0),.rsl 2 5,.ptr 3 0,.ptr 5 0,.raw (.slice none 0 0)],.row 76 3 5 (rgF (ownR 2 true { data:=#[] } mk)),.cells 109 [.rsl 4 6],.row 76 3 6 (rgF R),.cells 114 [.rsl 6 2,.rsl 7 2,.ptr 3 0],.row 64 4 2 mapF2,.vec 115 [.rsl 8 2,.rsl 9 3],.row 9 1 2 (sF keys0),.row 9 1 3 (sF keys1),.row 64 4 2 mapF2]
 | _,_,_=>[]
theorem mF21 (k:Nat) (h:k<1):mapF2 k=mapF1 k:=by
 obtain rfl:k=0:=by omega
 rfl
set_option maxRecDepth 100000 in
theorem new_w (nm:Nat) (pe de:Bool) (hn:nm<3) (pk:ByteArray) (mk:BitVec 64) (R:RT) (X:Nat→BitVec 64) (nd:Nat):BWs (newL nm pe de pk mk R X nd) (newV nm pe de pk mk R X nd):=by
 rcases nm with _ | _ | _ | nm
 all_goals first
  | (exact absurd hn (by omega))
  | (cases pe<;>cases de<;>(unfold newL newV;(try dsimp only);repeat' (first | exact BWs.nil | refine BWs.cons ?_ ?_)))
 all_goals first
  | exact BW.rfl'
  | exact BW.draws
  | exact BW.row mF21
noncomputable def sp_newv (nm:Nat) (pe de:Bool):SpN:=fun args ch=>match de with
 | false=>match args,ch with
   | [.agg [.rsl 0 k,.b64 true pl],.agg [.str pk,.b64 false mk,.raw v,.rsl 1 nd],.one (.raw v2)],[(0,.row 64 4 2 ls),(1,.ro TD [.seg 1 n2 f])]=>
     some (.p (k=nm∧ls=mapF2∧pl=BitVec.ofNat 64 pk.size∧v= .slice none 0 0∧v2= .slice none 0 0∧pkOK pe pk∧nd≠0∧nd≤100∧n2=nd∧f=uF (uOf f)),.tup [(false,[.ptr 2 0]),(false,[.b64 true 0#64])],newV nm pe false pk mk (memR nm pe pk mk) (uOf f) nd)
   | _,_=>none
 | true=>match args,ch with
   | [.agg [.rsl 0 k,.b64 true pl],.agg [.str pk,.b64 false mk,.raw v,.raw v3],.one (.raw v2)],[(0,.row 64 4 2 ls)]=>
     some (.p (k=nm∧ls=mapF2∧pl=BitVec.ofNat 64 pk.size∧v= .slice none 0 0∧v2= .slice none 0 0∧pkOK pe pk∧∃ ad dc,v3= .slice ad 0 dc),.tup [(false,[.ptr 1 0]),(false,[.b64 true 0#64])],newV nm pe true pk mk (memR nm pe pk mk) (fun _=>0#64) 0)
   | _,_=>none
theorem e_newv (nm:Nat) (pe de:Bool) (hn:nm<3):EntryN Tryd.prog anyWorld 12 (sp_newv nm pe de):=by
 refine (e_new nm pe de hn).weak fun args ch c v fr' h=> ?_
 unfold sp_newv at h
 unfold sp_new
 cases de
 · dsimp only at h ⊢
   split at h
   · cases h
     exact ⟨_,_,rfl,id,new_w nm pe false hn _ _ _ _ _⟩
   · cases h
 · dsimp only at h ⊢
   split at h
   · cases h
     exact ⟨_,_,rfl,id,new_w nm pe true hn _ _ _ _ _⟩
   · cases h
end Go.Proofs.YthkgakelgdncjaaDoor
namespace Go.Proofs.YthkgakelgdncjaaDoor
open Go.Ep Go.RowKit
set_option linter.unusedVariables false
theorem okM_G {P:Program} {G:World→Prop} {f:FuncId} {sp:SpM} (e:EntryM P anyWorld f sp):EntryM P G f sp:=
 ⟨e.fn,fun args bs c v h1 h2=>⟨(e.calls args bs c v h1 h2).1,fun us ρ hr w _=>(e.calls args bs c v h1 h2).2 us ρ hr w trivial⟩⟩
theorem okK_G {P:Program} {G:World→Prop} {f:FuncId} {sp:SpK} (e:EntryK P anyWorld f sp):EntryK P G f sp:=
 ⟨e.fn,fun args bs c b nv h1 h2=>⟨(e.calls args bs c b nv h1 h2).1,(e.calls args bs c b nv h1 h2).2.1,fun us ρ hr w _=>(e.calls args bs c b nv h1 h2).2.2 us ρ hr w trivial⟩⟩
noncomputable abbrev C_f0:Table:=withMk (tabM Dbar [(24,sp_hm),(19,sp_hj)] ms_H) [(17,spKS 5 sq_targets),(18,spKS 5 sq_halves)]
noncomputable abbrev C_f:Table:=⟨C_f0.fn,C_f0.glob,C_f0.look,inlN Tryd.prog C_f0 FSh 4,.sym,0,0,[],C_f0.mkr,[]⟩
theorem EK_H:EntriesK Tryd.prog Gbar [(17,spKS 5 sq_targets),(18,spKS 5 sq_halves)]:=
 .cons (okK_G e_targets) (.cons (okK_G e_halves) .nil)
theorem C_f0_ok:CSound Tryd.prog Gbar C_f0:=
 ((((((CSound.nil Dbar_ok).cons (ok_G e_hj)).cons (ok_G e_hm)).startM.consM (okM_G e_RefCheck)).consM (okM_G e_Check)).consM (okM_G e_half)).withMk EK_H
theorem C_f_ok:CSound Tryd.prog Gbar C_f:=C_f0_ok.inl' (inlN_sound C_f0_ok (by kernel_rfl) fs_h 4) .sym 0 0 [] []
end Go.Proofs.YthkgakelgdncjaaDoor
namespace Go.Proofs.YthkgakelgdncjaaDoor
open Go.Ep Go.RowKit
set_option linter.unusedVariables false
set_option linter.unusedSimpArgs false
theorem leaf_h1 {ch g:List (Nat×Blk)} {A B L:Nat} {b1 b2:Blk} (e:(BitVec.ofNat 64 L).toNat=L) (hl:ch.length=1) (hd:distN (List.range 1++[A,B])=true) (hv:ltNs (List.range 1++[A,B]) [1,2]=true) (h1:Ep.look g A=some b1) (h2:Ep.look g B=some b2)
 (u1:b1.unc (List.range 1++[A,B])=b1) (u2:b2.unc (List.range 1++[A,B])=b2) (o1:b1.own=true∧b1.names=[]) (o2:b2.own=true∧b2.names=[]) (hk:∀ i d,Ep.look ch i=some d→Ep.look g i=some d) :
 OutN ch (.tup [(false,[.slc 1 0 L L]),(false,[.slc 2 0 L L]),(false,[.b64 true 0#64])]) [b1,b2] (.tup [(false,[.slc A 0 (BitVec.ofNat 64 L).toNat (BitVec.ofNat 64 L).toNat]),(false,[.slc B 0 (BitVec.ofNat 64 L).toNat (BitVec.ofNat 64 L).toNat]),(false,[.b64 true 0#64])]) g:=by
 rw [e]
 refine ⟨[A,B],by rw [hl];exact hd,by rw [hl];exact hv,fun b hb=> ?_,by rw [hl];rfl,hk,?_⟩
 · rw [hl]
   rcases List.mem_cons.1 hb with rfl | hb
   · exact ⟨o1.1,by rw [o1.2];rfl⟩
   · obtain rfl:=List.mem_singleton.1 hb
     exact ⟨o2.1,by rw [o2.2];rfl⟩
 · rw [hl]
   exact ⟨by rw [u1];exact h1,by rw [u2];exact h2,trivial⟩
theorem leaf_h2 {ch g:List (Nat×Blk)} {A B L:Nat} {b1 b2:Blk} (e:(BitVec.ofNat 64 L).toNat=L) (hl:ch.length=2) (hd:distN (List.range 2++[A,B])=true) (hv:ltNs (List.range 2++[A,B]) [2,3]=true) (h1:Ep.look g A=some b1) (h2:Ep.look g B=some b2)
 (u1:b1.unc (List.range 2++[A,B])=b1) (u2:b2.unc (List.range 2++[A,B])=b2) (o1:b1.own=true∧b1.names=[]) (o2:b2.own=true∧b2.names=[]) (hk:∀ i d,Ep.look ch i=some d→Ep.look g i=some d) :
 OutN ch (.tup [(false,[.slc 2 0 L L]),(false,[.slc 3 0 L L]),(false,[.b64 true 0#64])]) [b1,b2] (.tup [(false,[.slc A 0 (BitVec.ofNat 64 L).toNat (BitVec.ofNat 64 L).toNat]),(false,[.slc B 0 (BitVec.ofNat 64 L).toNat (BitVec.ofNat 64 L).toNat]),(false,[.b64 true 0#64])]) g:=by
 rw [e]
 refine ⟨[A,B],by rw [hl];exact hd,by rw [hl];exact hv,fun b hb=> ?_,by rw [hl];rfl,hk,?_⟩
 · rw [hl]
   rcases List.mem_cons.1 hb with rfl | hb
   · exact ⟨o1.1,by rw [o1.2];rfl⟩
   · obtain rfl:=List.mem_singleton.1 hb
     exact ⟨o2.1,by rw [o2.2];rfl⟩
 · rw [hl]
   exact ⟨by rw [u1];exact h1,by rw [u2];exact h2,trivial⟩
theorem h_keep {A B:Blk} {g:List (Nat×Blk)} (h0:Ep.look g 0=some A) (h1:Ep.look g 1=some B) {i:Nat} {d:Blk} (h:Ep.look [(0,A),(1,B)] i=some d):Ep.look g i=some d:=by
 rcases i with _ | _ | i
 · have h':some A=some d:=h
   rw [h0];exact h'
 · have h':some B=some d:=h
   rw [h1];exact h'
 · have h':(none:Option Blk)=some d:=h
   cases h'
theorem h_keep1 {A:Blk} {g:List (Nat×Blk)} (h0:Ep.look g 0=some A) {i:Nat} {d:Blk} (h:Ep.look [(0,A)] i=some d):Ep.look g i=some d:=by
 rcases i with _ | i
 · have h':some A=some d:=h
   rw [h0];exact h'
 · have h':(none:Option Blk)=some d:=h
   cases h'
end Go.Proofs.YthkgakelgdncjaaDoor
