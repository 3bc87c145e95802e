/- HardenSame: the world's blocks; what a helper's call does to them: tools. Conditions: as typed. -/
import Derived.Test.YthkgakelgdncjaaDoorMj
namespace Go.Proofs.YthkgakelgdncjaaDoor
open Go.Ep Go.RowKit
set_option linter.unusedVariables false
set_option linter.unusedSimpArgs false
structure WC where
 pl:BitVec 64
 co:Nat
 own:RT
 cm:Nat
 dm:Nat
 X:Nat→BitVec 64
 k0:Nat→ByteArray
structure WR where
 r:RT
 k1:Nat→ByteArray
 dk:Nat
 ds:Nat
 dn:Nat
def WR.ok (s:WR) (cm dm:Nat):Prop:=RgOK s.r cm∧s.dk + s.dn=dm∧dm≤100
def dmV (de:Bool) (dm:Nat):Nat:=match de with
 | true=>0
 | false=>dm
structure CR where
 v:BitVec 64
 e:BitVec 64
 s:WR
structure CA (cm dm:Nat) where
 v:BitVec 64
 e:BitVec 64
 s:WR
 ok:s.ok cm dm
theorem ex_if {α:Sort _} {p:Bool} {A B:α→Prop} (h1:p=true→∃ a,A a) (h2:p=false→∃ a,B a):∃ a,Both (Given (p=true) (A a)) (Given (p=false) (B a)):=by
 cases p with
 | true=>obtain ⟨a,h⟩:=h1 rfl;exact ⟨a,⟨⟨fun _=>h⟩,⟨fun e=>by cases e⟩⟩⟩
 | false=>obtain ⟨a,h⟩:=h2 rfl;exact ⟨a,⟨⟨fun e=>by cases e⟩,⟨fun _=>h⟩⟩⟩
theorem ex_ob {α:Sort _} {p:Prop} {A:α→Prop} (h:p) (h2:∃ a,A a):∃ a,Both (Ob p) (A a):=by
 obtain ⟨a,k⟩:=h2;exact ⟨a,⟨h⟩,k⟩
theorem ex_lp {α:Sort _} {A B:α→Prop} (f:∀ a,A a→B a) (h:∃ a,A a):∃ a,B a:=by
 obtain ⟨a,k⟩:=h;exact ⟨a,f a k⟩
def updL (ups:List (Nat×Blk)):List (Nat×Blk)→List (Nat×Blk)
 | []=>[]
 | (i,b)::r=>(i,(lookU ups i (some b)).getD b)::updL ups r
theorem lookU_some:∀ (ups:List (Nat×Blk)) (i:Nat) (b:Blk),∃ c,lookU ups i (some b)=some c
 | [],i,b=>⟨b,rfl⟩
 | (k,c)::r,i,b=>by
   simp only [lookU]
   split
   · exact lookU_some r i c
   · exact lookU_some r i b
theorem upsL {ups:List (Nat×Blk)}:∀ {bl g:List (Nat×Blk)},g=updL ups bl→∀ i d,Ep.look bl i=some d→Ep.look g i=lookU ups i (some d)
 | [],g,_,i,d,h=>by cases h
 | (j,b)::r,g,e,i,d,h=>by
   subst e
   simp only [updL]
   rw [look_eq_beq] at h ⊢
   split at h
   · rename_i hj
     rw [if_pos hj]
     have:j=i:=by simpa using hj
     subst this
     cases h
     obtain ⟨c,hc⟩:=lookU_some ups j b
     rw [hc];rfl
   · rename_i hj
     rw [if_neg hj]
     exact upsL rfl i d h
theorem leaf_w {cm dm:Nat} {u:AV} {bl g:List (Nat×Blk)} {ups:CA cm dm→List (Nat×Blk)} {v e:BitVec 64} {r:RT} {k1:Nat→ByteArray} {dk ds dn:Nat} (h1:u= .tup [(false,[.b64 false v]),(false,[.b64 true e])])
 (h2:∀ ok,g=updL (ups ⟨v,e,⟨r,k1,dk,ds,dn⟩,ok⟩) bl) (ok:WR.ok ⟨r,k1,dk,ds,dn⟩ cm dm) :
 ∃ a:CA cm dm,u= .tup [(false,[.b64 false a.v]),(false,[.b64 true a.e])]∧∀ i d,Ep.look bl i=some d→Ep.look g i=lookU (ups a) i (some d):=
 ⟨⟨v,e,⟨r,k1,dk,ds,dn⟩,ok⟩,h1,upsL (h2 ok)⟩
theorem dn_pos {dn dm:Nat} (h:dn≤dm) (hm:dm≤100) (e:(BitVec.ofNat 64 dn==0#64)=false):0<dn:=by
 rcases dn with _ | n
 · exact absurd e (by decide)
 · omega
theorem dn_1 {dk dn dm:Nat} (hd:dk + dn=dm) (hm:dm≤100) (e:(BitVec.ofNat 64 dn==0#64)=false):0≤(0#64).toInt∧(0#64).toNat<dn:=⟨by decide,dn_pos (by omega) hm e⟩
theorem dn_3 {dk dn dm:Nat} (hd:dk + dn=dm) (hm:dm≤100) (e:(BitVec.ofNat 64 dn==0#64)=false):0<1∧1≤dn:=⟨by decide,dn_pos (by omega) hm e⟩
theorem dn_4 {dk dn dm:Nat} (hd:dk + dn=dm) (hm:dm≤100) (e:(BitVec.ofNat 64 dn==0#64)=false):dk + 1 + (dn - 1)=dm:=by
 have:=dn_pos (dn:=dn) (by omega) hm e
 omega
theorem dn_2 {dk dn dm:Nat} (hd:dk + dn=dm) (hm:dm≤100) (e:(BitVec.ofNat 64 dn==0#64)=false):dk + (0#64).toNat<dm:=by
 have:=dn_pos (dn:=dn) (by omega) hm e
 show dk + 0<dm;omega
def upS (k:Nat→ByteArray) (i:Nat) (s:ByteArray):Nat→ByteArray:=fun j=>if j=i then s else k j
theorem updS (k:Nat→ByteArray) (i:Nat) (s:ByteArray):updF (sF k) i 0 [.str s]=sF (upS k i s):=by
 funext j
 by_cases e:j=i
 · subst e;simp [updF,mergeP,pickP,sF,upS]
 · simp [updF,mergeP,pickP,sF,upS,e]
def sOf (f:Nat→List PL):Nat→ByteArray:=fun k=>match f k with
 | [.str x]=>x
 | _=>⟨#[]⟩
theorem tx_sz {r:RT} {cm:Nat} (R:RgOK r cm) (a n:BitVec 64):(textV r cm a n).1.size<9223372036854775808:=by
 unfold textV
 split
 · exact (by decide:(0:Nat)<9223372036854775808)
 · split
   · exact (by decide:(0:Nat)<9223372036854775808)
   · split
     · exact (by decide:(0:Nat)<9223372036854775808)
     · rename_i h
       have:=R.size _ (at_spec R (Bool.eq_false_iff.2 h)).1
       rw [← exB_eq,ByteArray.size_extract]
       omega
def ms2 (k:Nat):BitVec 64×BitVec 64×BitVec 64×BitVec 64:=match k with
 | 0=>(1#64,4#64,16#64,2#64)
 | _=>(2#64,8#64,8#64,3#64)
def mF2:Nat→List PL:=fun k=>[.b64 true (ms2 k).1,.b64 true (ms2 k).2.1,.b64 true (ms2 k).2.2.1,.b64 true (ms2 k).2.2.2]
theorem bnd_1 (k:Nat):bndK (k + 1) 1=1:=by
 show (match Nat.ble (k + 1) 1 with | true=>k + 1 | false=>1)=1
 cases k with
 | zero=>rfl
 | succ k=>rfl
theorem mF2_eq:mF2=mapF2:=by
 funext k
 rcases k with _ | k
 · rfl
 · show _=mapF2 (k + 1)
   have:=bnd_1 k
   unfold mapF2
   rw [this];rfl
structure Tag (nm:Nat) (de:Bool):Prop where
 p:True
def wB (nm:Nat) (de:Bool) (b:Nat) (c:WC) (s:WR):List (Nat×Blk):=match nm,de with
 | 0,false=>[(b,.cells 73 [.raw (.slice none 0 0),.b64 true c.pl,.rsl (b + 1) c.co,.ptr (b + 2) 0,.ptr (b + 3) 0,.rsc (b + 4) 1 s.dk s.ds s.dn]),((b + 1),.row 76 3 c.co (rgF c.own)),((b + 2),.cells 109 [.rsl (b + 5) c.cm]),((b + 3),.cells 114 [.raw (.slice none 0 0),.raw (.slice none 0 0),.ptr (b + 2) 0]),((b + 4),.row 31 1 c.dm (uF c.X)),((b + 5),.row 76 3 c.cm (rgF s.r))]
 | 0,true=>[(b,.cells 73 [.raw (.slice none 0 0),.b64 true c.pl,.rsl (b + 1) c.co,.ptr (b + 2) 0,.ptr (b + 3) 0,.raw (.slice none 0 0)]),((b + 1),.row 76 3 c.co (rgF c.own)),((b + 2),.cells 109 [.rsl (b + 4) c.cm]),((b + 3),.cells 114 [.raw (.slice none 0 0),.raw (.slice none 0 0),.ptr (b + 2) 0]),((b + 4),.row 76 3 c.cm (rgF s.r))]
 | 1,false=>[(b,.cells 73 [.rsl (b + 1) 1,.b64 true c.pl,.rsl (b + 2) c.co,.ptr (b + 3) 0,.ptr (b + 4) 0,.rsc (b + 5) 1 s.dk s.ds s.dn]),((b + 1),.row 64 4 1 mapF1),((b + 2),.row 76 3 c.co (rgF c.own)),((b + 3),.cells 109 [.rsl (b + 6) c.cm]),((b + 4),.cells 114 [.rsl (b + 7) 1,.rsl (b + 8) 1,.ptr (b + 3) 0]),((b + 5),.row 31 1 c.dm (uF c.X)),((b + 6),.row 76 3 c.cm (rgF s.r)),((b + 7),.row 64 4 1 mapF1),((b + 8),.vec 115 [.rsl (b + 9) 2]),((b + 9),.row 9 1 2 (sF c.k0))]
 | 1,true=>[(b,.cells 73 [.rsl (b + 1) 1,.b64 true c.pl,.rsl (b + 2) c.co,.ptr (b + 3) 0,.ptr (b + 4) 0,.raw (.slice none 0 0)]),((b + 1),.row 64 4 1 mapF1),((b + 2),.row 76 3 c.co (rgF c.own)),((b + 3),.cells 109 [.rsl (b + 5) c.cm]),((b + 4),.cells 114 [.rsl (b + 6) 1,.rsl (b + 7) 1,.ptr (b + 3) 0]),((b + 5),.row 76 3 c.cm (rgF s.r)),((b + 6),.row 64 4 1 mapF1),((b + 7),.vec 115 [.rsl (b + 8) 2]),((b + 8),.row 9 1 2 (sF c.k0))]
 | 2,false=>[(b,.cells 73 [.rsl (b + 1) 2,.b64 true c.pl,.rsl (b + 2) c.co,.ptr (b + 3) 0,.ptr (b + 4) 0,.rsc (b + 5) 1 s.dk s.ds s.dn]),((b + 1),.row 64 4 2 mF2),((b + 2),.row 76 3 c.co (rgF c.own)),((b + 3),.cells 109 [.rsl (b + 6) c.cm]),((b + 4),.cells 114 [.rsl (b + 7) 2,.rsl (b + 8) 2,.ptr (b + 3) 0]),((b + 5),.row 31 1 c.dm (uF c.X)),((b + 6),.row 76 3 c.cm (rgF s.r)),((b + 7),.row 64 4 2 mF2),((b + 8),.vec 115 [.rsl (b + 9) 2,.rsl (b + 10) 3]),((b + 9),.row 9 1 2 (sF c.k0)),((b + 10),.row 9 1 3 (sF s.k1))]
 | 2,true=>[(b,.cells 73 [.rsl (b + 1) 2,.b64 true c.pl,.rsl (b + 2) c.co,.ptr (b + 3) 0,.ptr (b + 4) 0,.raw (.slice none 0 0)]),((b + 1),.row 64 4 2 mF2),((b + 2),.row 76 3 c.co (rgF c.own)),((b + 3),.cells 109 [.rsl (b + 5) c.cm]),((b + 4),.cells 114 [.rsl (b + 6) 2,.rsl (b + 7) 2,.ptr (b + 3) 0]),((b + 5),.row 76 3 c.cm (rgF s.r)),((b + 6),.row 64 4 2 mF2),((b + 7),.vec 115 [.rsl (b + 8) 2,.rsl (b + 9) 3]),((b + 8),.row 9 1 2 (sF c.k0)),((b + 9),.row 9 1 3 (sF s.k1))]
 | _,_=>[]
def wU (nm:Nat) (de:Bool) (b:Nat) (c:WC) (s:WR):List (Nat×Blk):=match nm,de with
 | 0,false=>[(b,.cells 73 [.raw (.slice none 0 0),.b64 true c.pl,.rsl (b + 1) c.co,.ptr (b + 2) 0,.ptr (b + 3) 0,.rsc (b + 4) 1 s.dk s.ds s.dn]),((b + 5),.row 76 3 c.cm (rgF s.r))]
 | 0,true=>[((b + 4),.row 76 3 c.cm (rgF s.r))]
 | 1,false=>[(b,.cells 73 [.rsl (b + 1) 1,.b64 true c.pl,.rsl (b + 2) c.co,.ptr (b + 3) 0,.ptr (b + 4) 0,.rsc (b + 5) 1 s.dk s.ds s.dn]),((b + 6),.row 76 3 c.cm (rgF s.r))]
 | 1,true=>[((b + 5),.row 76 3 c.cm (rgF s.r))]
 | 2,false=>[(b,.cells 73 [.rsl (b + 1) 2,.b64 true c.pl,.rsl (b + 2) c.co,.ptr (b + 3) 0,.ptr (b + 4) 0,.rsc (b + 5) 1 s.dk s.ds s.dn]),((b + 6),.row 76 3 c.cm (rgF s.r)),((b + 10),.row 9 1 3 (sF s.k1))]
 | 2,true=>[((b + 5),.row 76 3 c.cm (rgF s.r)),((b + 9),.row 9 1 3 (sF s.k1))]
 | _,_=>[]
def exW (nm:Nat) (de:Bool) (w:List (Nat×Blk)):Option (WC×WR):=match nm,de with
 | 0,false=>(match w with
   | [(j0,.cells 73 [.raw v1,.b64 true pl,.rsl i1 co,.ptr i2 0,.ptr i3 0,.rsc i4 1 dk ds dn]),(j1,.row 76 3 co2 fo),(j2,.cells 109 [.rsl i5 cm]),(j3,.cells 114 [.raw v2,.raw v3,.ptr i6 0]),(j4,.row 31 1 dm fx),(j5,.row 76 3 cm2 fr)]=>some (⟨pl,co,rgOf fo,cm,dm,uOf fx,fun _=>⟨#[]⟩⟩,⟨rgOf fr,fun _=>⟨#[]⟩,dk,ds,dn⟩)
   | _=>none)
 | 0,true=>(match w with
   | [(j0,.cells 73 [.raw v1,.b64 true pl,.rsl i1 co,.ptr i2 0,.ptr i3 0,.raw v2]),(j1,.row 76 3 co2 fo),(j2,.cells 109 [.rsl i4 cm]),(j3,.cells 114 [.raw v3,.raw v4,.ptr i5 0]),(j4,.row 76 3 cm2 fr)]=>some (⟨pl,co,rgOf fo,cm,0,fun _=>0#64,fun _=>⟨#[]⟩⟩,⟨rgOf fr,fun _=>⟨#[]⟩,0,0,0⟩)
   | _=>none)
 | 1,false=>(match w with
   | [(j0,.cells 73 [.rsl i1 1,.b64 true pl,.rsl i2 co,.ptr i3 0,.ptr i4 0,.rsc i5 1 dk ds dn]),(j1,.row 64 4 1 g1),(j2,.row 76 3 co2 fo),(j3,.cells 109 [.rsl i6 cm]),(j4,.cells 114 [.rsl i7 1,.rsl i8 1,.ptr i9 0]),(j5,.row 31 1 dm fx),(j6,.row 76 3 cm2 fr),(j7,.row 64 4 1 g7),(j8,.vec 115 [.rsl i10 2]),(j9,.row 9 1 2 f0)]=>some (⟨pl,co,rgOf fo,cm,dm,uOf fx,sOf f0⟩,⟨rgOf fr,fun _=>⟨#[]⟩,dk,ds,dn⟩)
   | _=>none)
 | 1,true=>(match w with
   | [(j0,.cells 73 [.rsl i1 1,.b64 true pl,.rsl i2 co,.ptr i3 0,.ptr i4 0,.raw v1]),(j1,.row 64 4 1 g1),(j2,.row 76 3 co2 fo),(j3,.cells 109 [.rsl i5 cm]),(j4,.cells 114 [.rsl i6 1,.rsl i7 1,.ptr i8 0]),(j5,.row 76 3 cm2 fr),(j6,.row 64 4 1 g6),(j7,.vec 115 [.rsl i9 2]),(j8,.row 9 1 2 f0)]=>some (⟨pl,co,rgOf fo,cm,0,fun _=>0#64,sOf f0⟩,⟨rgOf fr,fun _=>⟨#[]⟩,0,0,0⟩)
   | _=>none)
 | 2,false=>(match w with
   | [(j0,.cells 73 [.rsl i1 2,.b64 true pl,.rsl i2 co,.ptr i3 0,.ptr i4 0,.rsc i5 1 dk ds dn]),(j1,.row 64 4 2 g1),(j2,.row 76 3 co2 fo),(j3,.cells 109 [.rsl i6 cm]),(j4,.cells 114 [.rsl i7 2,.rsl i8 2,.ptr i9 0]),(j5,.row 31 1 dm fx),(j6,.row 76 3 cm2 fr),(j7,.row 64 4 2 g7),(j8,.vec 115 [.rsl i10 2,.rsl i11 3]),(j9,.row 9 1 2 f0),(j10,.row 9 1 3 f1)]=>some (⟨pl,co,rgOf fo,cm,dm,uOf fx,sOf f0⟩,⟨rgOf fr,sOf f1,dk,ds,dn⟩)
   | _=>none)
 | 2,true=>(match w with
   | [(j0,.cells 73 [.rsl i1 2,.b64 true pl,.rsl i2 co,.ptr i3 0,.ptr i4 0,.raw v1]),(j1,.row 64 4 2 g1),(j2,.row 76 3 co2 fo),(j3,.cells 109 [.rsl i5 cm]),(j4,.cells 114 [.rsl i6 2,.rsl i7 2,.ptr i8 0]),(j5,.row 76 3 cm2 fr),(j6,.row 64 4 2 g6),(j7,.vec 115 [.rsl i9 2,.rsl i10 3]),(j8,.row 9 1 2 f0),(j9,.row 9 1 3 f1)]=>some (⟨pl,co,rgOf fo,cm,0,fun _=>0#64,sOf f0⟩,⟨rgOf fr,sOf f1,0,0,0⟩)
   | _=>none)
 | _,_=>none
structure Nrm (nm:Nat) (de:Bool) (c:WC) (s:WR):Prop where
 k0:nm=0→c.k0=fun _=>⟨#[]⟩
 k1:nm≠2→s.k1=fun _=>⟨#[]⟩
 d:de=true→c.dm=0∧c.X=(fun _=>0#64)∧s.dk=0∧s.ds=0∧s.dn=0
theorem exW_ok {nm:Nat} {de:Bool} {w:List (Nat×Blk)} {c:WC} {s:WR} (h:exW nm de w=some (c,s)):(nm=0∨nm=1∨nm=2)∧dmV de c.dm=c.dm∧Nrm nm de c s:=by
 unfold exW at h
 split at h
 all_goals (try cases h)
 all_goals (split at h)
 all_goals cases h
 all_goals exact ⟨by decide,rfl,⟨fun e=>(by first | rfl | cases e),fun e=>(by first | rfl | exact absurd rfl e),fun e=>(by first | exact ⟨rfl,rfl,rfl,rfl,rfl⟩ | cases e)⟩⟩
end Go.Proofs.YthkgakelgdncjaaDoor
