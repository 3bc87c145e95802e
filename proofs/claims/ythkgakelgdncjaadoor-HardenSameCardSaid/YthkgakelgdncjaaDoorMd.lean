/- Contracts of functions that read what is reached from their arguments. Conditions: as typed. -/
import Derived.Test.YthkgakelgdncjaaDoorPs
namespace Go.Ep
open Go.RowKit
set_option linter.unusedVariables false
set_option linter.unusedSimpArgs false
def roD:Blk→Blk
 | .cells T ls=> .ro T ls
 | .ro T ls=> .ro T ls
 | .row T z n f=> .ro T [.seg z n f]
 | .imap es=> .romap es
 | .romap es=> .romap es
 | .vec T ls=> .ro T ls
def roDs:List (Nat×Blk)→List (Nat×Blk)
 | []=>[]
 | (i,b)::r=>(i,roD b)::roDs r
def fstsN:List (Nat×Blk)→List Nat
 | []=>[]
 | (i,_)::r=>i::fstsN r
def spD (sp:SpW):SpM:=fun args bs=>match roDs bs,fstsN bs with
 | ro,ns=>match subNs ns (anames args),closedIn ro ns ns,distN ns,chOf ro ns ns 0 with
   | true,true,true,some ch=>match sp (canAs ns args) ch with
     | some (c,v,[])=>match v.names with
       | []=>some (c,v)
       | _=>none
     | _=>none
   | _,_,_,_=>none
section
variable {P : Program} {G : World → Prop}
theorem roD_own {b:Blk}:(roD b).own=false:=by cases b<;>rfl
theorem roD_rel {b:Blk} {ρ:Nat→Loc} {q:Loc} {o:Option Obj} (h:RelB ρ q b o):RelB ρ q (roD b) o:=by
 cases b with
 | cells T ls=>
   obtain ⟨cs,e,h0,h1⟩:=h
   exact ⟨cs,(0,0),e,cs.toList,[],by rw [h0];simp,h1⟩
 | ro T ls=>exact h
 | row T z n f=>
   obtain ⟨cs,e,h0,h1,h2,h3,h4⟩:=h
   exact ⟨cs,(0,0),e,cs.toList.take (z*n),cs.toList.drop (z*n),by rw [h0];simp,cs.toList.take (z*n),[],by simp,h4,rfl⟩
 | imap es=>exact h
 | romap es=>exact h
 | vec T ls=>
   obtain ⟨cs,e,h0,-,-,-,h1⟩:=h
   exact ⟨cs,(0,0),e,_,cs.toList.drop ls.length,by rw [h0];simp,h1⟩
theorem roDs_look:∀ {bs:List (Nat×Blk)} {i:Nat} {d:Blk},look (roDs bs) i=some d→∃ b,(i,b)∈bs∧d=roD b
 | [],i,d,h=>by simp [roDs,look] at h
 | (j,b)::r,i,d,h=>by
   simp only [roDs] at h
   rw [look_eq_beq] at h
   split at h
   · rename_i e
     subst e
     exact ⟨b,by simp,(Option.some.inj h).symm⟩
   · obtain ⟨b0,h1,h2⟩:=roDs_look h
     exact ⟨b0,by simp [h1],h2⟩
theorem fsts_mem:∀ {bs:List (Nat×Blk)} {i:Nat} {b:Blk},(i,b)∈bs→i∈fstsN bs
 | [],i,b,h=>by simp at h
 | (j,c)::r,i,b,h=>by
   rcases List.mem_cons.1 h with h | h
   · cases h;simp [fstsN]
   · simp [fstsN,fsts_mem h]
theorem EntryM.of_D {f:FuncId} {sp:SpW} (he:EntryW P G f sp):EntryM P G f (spD sp):=by
 refine ⟨he.fn,fun args bs c v hs hc=> ?_⟩
 unfold spD at hs
 dsimp only at hs
 generalize hns:fstsN bs=ns at hs
 split at hs
 · rename_i ch h1 h2 h3 h4
   split at hs
   · rename_i c' v' hsp
     split at hs
     · rename_i hv
       simp only [Option.some.injEq,Prod.mk.injEq] at hs
       obtain ⟨rfl,rfl⟩:=hs
       refine ⟨hv,fun us ρ hrel w hG hB hl=> ?_⟩
       have hcl:=closedIn_spec h2
       have H:RelH w.heap.size w ρ (look (roDs bs)) w:=by
        refine ⟨fun i d hi=> ?_,fun i d hi m hm=> ?_,fun i d hi=> ?_,fun i j d d' hi hj ho e=> ?_,Below.refl _ _,Nat.le_refl _⟩
        · obtain ⟨b,q1,rfl⟩:=roDs_look hi
          exact roD_rel (hB _ q1)
        · obtain ⟨b,q1,rfl⟩:=roDs_look hi
          obtain ⟨d0,q2,q3⟩:=hcl i (by rw [← hns];exact fsts_mem q1)
          rw [hi] at q2
          obtain rfl:=Option.some.inj q2
          obtain ⟨d1,q4,-⟩:=hcl m (q3 m hm)
          rw [q4];simp
        · obtain ⟨b,q1,rfl⟩:=roDs_look hi
          exact ⟨fun e=>(by rw [roD_own] at e;cases e),fun _=>hl _ q1⟩
        · obtain ⟨b,q1,rfl⟩:=roDs_look hi
          rw [roD_own] at ho;cases ho
       obtain ⟨HC,hlen,hpos⟩:=canH h2 h3 h4 H
       have hin:=subNs_spec h1
       refine (he.calls (canAs ns args) ch c' v' [] hsp hc hv (fun p hp=>by simp at hp) hlen (fun x hx m hm=> ?_) w.heap.size w (locN ρ ns) us w hG rfl (can_relAs hin hrel) HC).mono ?_
       · obtain ⟨y,y1,rfl⟩:=canAs_mem hx
         obtain ⟨i,i1,rfl⟩:=can_namesA hm
         exact hpos i (hin i (anames_mem.2 ⟨y,y1,i1⟩))
       · rintro e w' ⟨u,rfl,hu,-,hbel,hfr⟩
         refine ⟨u,rfl,relA_any hu hv,⟨hbel.os,hbel.tape,hbel.output,hbel.size,fun k hk=>hfr k hk fun m d hm ho=> ?_⟩⟩
         have:=(HC.low m d hm).1 ho
         omega
     · cases hs
   · cases hs
 · cases hs
end
end Go.Ep
