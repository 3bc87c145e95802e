/- HardenSame: the law's walk: over all worlds; where no program is handed in. Conditions: as typed. -/
import Derived.Test.YthkgakelgdncjaaDoorVr
import Derived.Test.YthkgakelgdncjaaDoorOm
import Derived.ChangeArms
import Derived.ChangeMaps5
import Derived.Test.YthkgakelgdncjaaDoorPr
namespace Go.Proofs.YthkgakelgdncjaaDoor
open Go.Ep Go.RowKit
set_option linter.unusedVariables false
set_option linter.unusedSimpArgs false
theorem Same_all {de nil:Bool} (T T2 TD:TypeId) (len cap ns cap2 nd dc:Nat) (ad ad3:Option Addr) (x:IT) (st:Nat→Bool) (bs:ByteArray) (mk0:BitVec 64) (v0:Value) (X:Nat→BitVec 64) (hl:len<9223372036854775808) (hb:bs.size<9223372036854775808) (hnd:nd<9223372036854775808) (hns:ns<9223372036854775808) (hn0:de=false→nd≠0) (hD:de=true→nd=0∧X=fun _=>0#64) (hS:nil=true→ns=0∧st=fun _=>false) :
 ∃ C:Table,CSound Tryd.prog Gbar C∧FI Tryd.prog C Tryd.f4 3 (lwA de nil len cap ns cap2 nd dc ad ad3 bs mk0 v0) (lwB de nil T T2 TD len ns nd x st X) (fun r _=>r= .one (.bool true)):=by
 have hk:=(lay_n (BitVec.signExtend 8 (BitVec.ofNat 64 bs.size))).2
 have hp:=lay_p (BitVec.signExtend 8 (BitVec.ofNat 64 bs.size))
 have hz:(stP bs (layP (BitVec.signExtend 8 (BitVec.ofNat 64 bs.size))).toNat).size≤100:=by rw [stP_size];omega
 obtain ⟨nm,e⟩:∃ nm,(layN (BitVec.signExtend 8 (BitVec.ofNat 64 bs.size))).toNat=nm:=⟨_,rfl⟩
 have h2:nm≤2:=by omega
 have hn:nm=0∨nm=1∨nm=2:=by omega
 have gs:((chk4 x len (BitVec.ofNat 64 (layN (BitVec.signExtend 8 (BitVec.ofNat 64 bs.size))).toNat) false).2 != 0#64)=false→(chk4 x len 4#64 false).2=0#64∧chk4 x len (bv nm) true=(0#64,0#64)∧Good x len (bv nm) false:=fun h=>by
  have h0:(chk4 x len (bv (layN (BitVec.signExtend 8 (BitVec.ofNat 64 bs.size))).toNat) false).2=0#64:=by simpa using h
  exact ⟨congrArg Prod.snd (chk_b (b:=4) false (by omega) (by omega) h0),chk_b true (Nat.le_of_eq e) (by omega) h0,good_of (congrArg Prod.snd (chk_b (b:=nm) false (Nat.le_of_eq e) (by omega) h0))⟩
 have hW:∀ pe:Bool,(de=false→nd≤100)→WR.ok (wrL nm pe (stP bs (layP (BitVec.signExtend 8 (BitVec.ofNat 64 bs.size))).toNat) (stM bs (layP (BitVec.signExtend 8 (BitVec.ofNat 64 bs.size))).toNat) nd) (memN nm pe) nd:=fun pe h=>⟨mem_ok hn _ _ hz,Nat.zero_add _,by cases de;exact h rfl;rw [(hD rfl).1];decide⟩
 have hG:∀ pe:Bool,((chk4 x len (BitVec.ofNat 64 (layN (BitVec.signExtend 8 (BitVec.ofNat 64 bs.size))).toNat) false).2 != 0#64)=false→(chk4 x len 4#64 false).2=0#64∧chk4 x len (BitVec.ofNat 64 nm) true=(0#64,0#64)∧chk4 (out2 x (barB x len st ns) len (lenO (barB x len st ns) len)) (lenO (barB x len st ns) len) (BitVec.ofNat 64 nm) true=(0#64,0#64)∧SameR (runF (stepN nm de (wcL nm pe (stP bs (layP (BitVec.signExtend 8 (BitVec.ofNat 64 bs.size))).toNat) (stM bs (layP (BitVec.signExtend 8 (BitVec.ofNat 64 bs.size))).toNat) nd X) x len) (1000#64).toNat 0 0#64 m00 (wrL nm pe (stP bs (layP (BitVec.signExtend 8 (BitVec.ofNat 64 bs.size))).toNat) (stM bs (layP (BitVec.signExtend 8 (BitVec.ofNat 64 bs.size))).toNat) nd)) (runF (stepN nm de (wcL nm pe (stP bs (layP (BitVec.signExtend 8 (BitVec.ofNat 64 bs.size))).toNat) (stM bs (layP (BitVec.signExtend 8 (BitVec.ofNat 64 bs.size))).toNat) nd X) (out2 x (barB x len st ns) len (lenO (barB x len st ns) len)) (lenO (barB x len st ns) len)) (4000#64).toNat 0 0#64 m00 (wrL nm pe (stP bs (layP (BitVec.signExtend 8 (BitVec.ofNat 64 bs.size))).toNat) (stM bs (layP (BitVec.signExtend 8 (BitVec.ofNat 64 bs.size))).toNat) nd)):=fun pe h=>⟨(gs h).1,(gs h).2.1,chk_y (gs h).2.2,same_run (gs h).2.2 _ _ _ _⟩
 by_cases z:(layP (BitVec.signExtend 8 (BitVec.ofNat 64 bs.size))).toNat=0
 · exact ⟨_,C_S_ok nm true de nil (by omega),Same hn T T2 TD len cap ns cap2 nd dc ad ad3 x st bs mk0 v0 X hl hb hnd hns hn0 hD hS e (by rw [z];rfl) (hW true) (own_ok hn _ _ hz nd X) _ _ rfl rfl (hG true)⟩
 · exact ⟨_,C_S_ok nm false de nil (by omega),Same hn T T2 TD len cap ns cap2 nd dc ad ad3 x st bs mk0 v0 X hl hb hnd hns hn0 hD hS e ⟨hz,by rw [stP_size];exact z⟩ (hW false) (own_ok hn _ _ hz nd X) _ _ rfl rfl (hG false)⟩
theorem h_nil {x:IT} {m:BitVec 64} {w:Bool} (h:((chk4 x 0 m w).2 != 0#64)=false):False:=by
 unfold chk4 at h
 rw [if_pos (.inl rfl)] at h
 exact absurd h (by decide)
set_option maxRecDepth 100000 in
theorem Same_nil {de nil:Bool} (T2 TD:TypeId) (cap ns cap2 nd dc:Nat) (a1 ad ad3:Option Addr) (st:Nat→Bool) (bs:ByteArray) (mk0:BitVec 64) (v0:Value) (X:Nat→BitVec 64) (hb:bs.size<9223372036854775808) (hnd:nd<9223372036854775808) :
 FI Tryd.prog (C_S 0 false de nil) Tryd.f4 3 (.one (.raw (.slice a1 0 cap))::(lwA de nil 0 cap ns cap2 nd dc ad ad3 bs mk0 v0).tail) (lwB de nil 0 T2 TD 0 ns nd (fun _=>⟨0#8,0#8,0#8,0#16,0#32⟩) st X).tail (fun r _=>r= .one (.bool true)):=by
 cases de
 all_goals cases nil
 all_goals simp only [lwA,lwB,List.cons_append,List.nil_append,List.append_nil,List.tail_cons]
 all_goals repeat' (first
  | (with_reducible apply Given.mk;intro h;(try exact absurd h (by decide)))
  | ((conv=>whnf);with_reducible apply Both.mk))
 all_goals first
  | ((with_reducible apply Ob.mk);first
    | with_reducible exact hb
    | with_reducible exact hnd
    | with_reducible exact lay_lt _
    | exact ⟨by decide,.inl rfl⟩
    | exact ⟨Nat.le_refl _,by decide,.inl rfl⟩
    | decide)
  | ((conv=>whnf);exact rfl)
  | exact (h_nil (by with_reducible assumption)).elim
  | ((conv=>whnf);skip)
end Go.Proofs.YthkgakelgdncjaaDoor
namespace Go.Proofs.YthkgakelgdncjaaDoor
open Go.Ep Go.RowKit Go.ChangeShapes Go.WideShapes
set_option linter.unusedVariables false
theorem four_of {cs:List Value} (h:cs.length=4):∃ a b c d,cs=[a,b,c,d]:=by
 rcases cs with _ | ⟨a,_ | ⟨b,_ | ⟨c,_ | ⟨d,_ | ⟨e,r⟩⟩⟩⟩⟩<;>simp at h
 exact ⟨a,b,c,d,rfl⟩
set_option maxRecDepth 100000 in
theorem open_start {H:Type} {enc:TypeId×Value→H} {w:World} {base:Nat} {spare:Nat→Bool} {held:Bool} {cs:List Value} {x:DataW H×List MemPlace} {fuel:Nat} (h:DataW.trod enc Tryd.prog w base spare held fuel 35 cs=some x) :
 ∃ (s:ByteArray) (m:BitVec 64) (v0 v3:Value) (n:Nat) (y:DataW H×List MemPlace),cs=[.string s,gL (fun _=>⟨0,0,0⟩) (.b64 false m),v0,v3]∧s.size≤maxLen∧DataW.trod enc Tryd.prog w base spare held n 33 [v3]=some y:=by
 obtain ⟨xs,n,rfl,rfl,hl,hx,hf⟩:=DataW.trod_struct Tryd.underlying35 h
 have hl:cs.length=4:=hl.trans (by kernel_rfl)
 obtain ⟨a,b,c,d,rfl⟩:=four_of hl
 have hx:xs.length=4:=hx
 obtain ⟨y0,y1,y2,y3,rfl⟩:∃ a b c d,xs=[a,b,c,d]:=by
  rcases xs with _ | ⟨a,_ | ⟨b,_ | ⟨c,_ | ⟨d,_ | ⟨e,r⟩⟩⟩⟩⟩<;>simp at hx
  exact ⟨a,b,c,d,rfl⟩
 have h0:=hf 0 _ rfl
 have h1:=hf 1 _ rfl
 have h3:=hf 3 _ rfl
 have c0:Tryd.prog.cellsOf 9=1:=by kernel_rfl
 have c1:Tryd.prog.cellsOf 31=1:=by kernel_rfl
 have c3:Tryd.prog.cellsOf 33=1:=by kernel_rfl
 have h0:DataW.trod enc Tryd.prog w base spare held n 9 (([a,b,c,d].drop 0).take (Tryd.prog.cellsOf 9))=some y0:=h0
 rw [c0] at h0
 have h0:DataW.trod enc Tryd.prog w base spare held n 9 [a]=some y0:=h0
 have h1:DataW.trod enc Tryd.prog w base spare held n 31 (([a,b,c,d].drop 1).take (Tryd.prog.cellsOf 31))=some y1:=h1
 rw [c1] at h1
 have h1:DataW.trod enc Tryd.prog w base spare held n 31 [b]=some y1:=h1
 have h3:DataW.trod enc Tryd.prog w base spare held n 33 (([a,b,c,d].drop 3).take (Tryd.prog.cellsOf 33))=some y3:=h3
 rw [c3] at h3
 have h3:DataW.trod enc Tryd.prog w base spare held n 33 [d]=some y3:=h3
 obtain ⟨s,e0,-,hs⟩:=DataW.trod_string Tryd.underlying9 h0
 obtain rfl:a= .string s:=by simpa using e0
 have hb:=flat_oks 8 n 31 [Leaf.int .u64] [b] _ (by kernel_rfl) h1
 obtain ⟨p,rfl,hp⟩:=leaf_pl hb.1 rfl
 obtain ⟨m,rfl⟩:=ok_u64 hp
 exact ⟨s,m,c,d,n,y3,rfl,hs,h3⟩
end Go.Proofs.YthkgakelgdncjaaDoor
namespace Go.Ep
open Go.RowKit
set_option linter.unusedVariables false
section
variable {P : Program} {G : World → Prop}
theorem law_of_FIH {C:Table} (hC:CSound P G C) (hm:P.follows .mixedOrders=true) {f:FuncId} {fn:Func} (hf:P.funcs[f]? =some fn) {nm:Nat} {args:List AV} {h:List (Nat×Blk)}
 (hF:FI P C fn nm args h (fun r _=>r= .one (.bool true))) (hlt:∀ m,look h m≠none→m<nm) (hn:∀ v∈args,∀ m∈v.names,look h m≠none) {ρ:Nat→Loc} {us:List Value} {w:World} (hG:G w)
 (hrel:RelAs ρ args us) (H:RelH w.heap.size w ρ (look h) w):Calls P f us.toArray w (fun e w'=>e= .returned (.bool true)∧Below w.heap.size w w'):=by
 refine (calls_of_FI hC hm hf hF hlt hn rfl hG hrel H).mono ?_
 rintro e w' ⟨u',rfl,h6,h7⟩
 have:=h6 ρ (by simp)
 simp only [gL] at this
 exact ⟨by rw [this],h7⟩
end
end Go.Ep
namespace Go.Ep
open Go.RowKit
theorem RelH.ros {ρ:Nat→Loc} {w:World} {h:List (Nat×Blk)} (hall:∀ i c,look h i=some c→∃ T ls cs fr us ws,c= .ro T ls∧lnames ls=[]∧w.heap[(ρ i).b]? =some (.cells cs T fr)∧cs.toList.drop (ρ i).o=us++ws∧RelLs ρ ls us) :
 RelH w.heap.size w ρ (look h) w:=by
 refine ⟨fun i c hi=> ?_,fun i c hi m hm=> ?_,fun i c hi=> ?_,fun i j c d hi hj ho _=> ?_,Below.refl _ _,Nat.le_refl _⟩
 · obtain ⟨T,ls,cs,fr,us,ws,rfl,h1,h2,h3,h4⟩:=hall i c hi
   exact ⟨cs,fr,h2,us,ws,h3,h4⟩
 · obtain ⟨T,ls,cs,fr,us,ws,rfl,h1,h2,h3,h4⟩:=hall i c hi
   rw [show (Blk.ro T ls).names=lnames ls from rfl,h1] at hm;simp at hm
 · obtain ⟨T,ls,cs,fr,us,ws,rfl,h1,h2,h3,h4⟩:=hall i c hi
   exact ⟨(fun h=>by cases h),fun _=>(Array.getElem?_eq_some_iff.1 h2).1⟩
 · obtain ⟨T,ls,cs,fr,us,ws,rfl,h1,h2,h3,h4⟩:=hall i c hi
   cases ho
end Go.Ep
namespace Go.Proofs.YthkgakelgdncjaaDoor
open Go.Ep Go.RowKit Go.ChangeShapes Go.WideShapes
set_option linter.unusedVariables false
set_option linter.unusedSimpArgs false
theorem in_ofS {f:Nat→List PL} (h:∀ k,oksP [Leaf.int .u8,Leaf.int .u8,Leaf.int .u8,Leaf.int .i16,Leaf.int .i32] (f k)):∃ x:IT,f=inF x:=by
 refine ⟨inOf f,funext fun k=> ?_⟩
 obtain ⟨p1,r1,e1,o1,h⟩:=oksP_cons (h k)
 obtain ⟨p2,r2,rfl,o2,h⟩:=oksP_cons h
 obtain ⟨p3,r3,rfl,o3,h⟩:=oksP_cons h
 obtain ⟨p4,r4,rfl,o4,h⟩:=oksP_cons h
 obtain ⟨p5,r5,rfl,o5,h⟩:=oksP_cons h
 obtain rfl:=oksP_nil h
 obtain ⟨x1,rfl⟩:=ok_u8 o1
 obtain ⟨x2,rfl⟩:=ok_u8 o2
 obtain ⟨x3,rfl⟩:=ok_u8 o3
 obtain ⟨x4,rfl⟩:=ok_i16 o4
 obtain ⟨x5,rfl⟩:=ok_i32 o5
 simp only [inF,inOf,e1,nthQ,q8,q16,q32]
theorem bool_ofS {f:Nat→List PL} (h:∀ k,oksP [Leaf.bool] (f k)):∃ st:Nat→Bool,f=bF st:=by
 have key:∀ k,∃ b:Bool,f k=[.bool b]:=fun k=>by
  obtain ⟨p,r,e,h1,h2⟩:=oksP_cons (h k)
  obtain rfl:=oksP_nil h2
  obtain ⟨b,rfl⟩:=ok_bool h1
  exact ⟨b,e⟩
 exact ⟨fun k=>(key k).choose,funext fun k=>(key k).choose_spec⟩
theorem u64_ofS {f:Nat→List PL} (h:∀ k,oksP [Leaf.int .u64] (f k)):∃ X:Nat→BitVec 64,f=uF X:=by
 have key:∀ k,∃ b:BitVec 64,f k=[.b64 false b]:=fun k=>by
  obtain ⟨p,r,e,h1,h2⟩:=oksP_cons (h k)
  obtain rfl:=oksP_nil h2
  obtain ⟨b,rfl⟩:=ok_u64 h1
  exact ⟨b,e⟩
 exact ⟨fun k=>(key k).choose,funext fun k=>(key k).choose_spec⟩
def rhoS (a b c:Ep.Loc):Nat→Ep.Loc:=fun n=>match n with
 | 0=>a
 | 1=>b
 | _=>c
set_option maxRecDepth 100000 in
theorem Same_w000 (w:World) (hG:Gbar w) (ad0:Option Addr) (cap0:Nat) (ad1:Option Addr) (cap1:Nat) (bs:ByteArray) (mk0:BitVec 64) (v0:Value) (hs:bs.size≤maxLen) (ad3:Option Addr) (cap3:Nat) :
 Calls Tryd.prog 4 #[.slice ad0 0 cap0,.slice ad1 0 cap1,.agg #[.string bs,gL (fun _=>⟨0,0,0⟩) (.b64 false mk0),v0,.slice ad3 0 cap3]] w fun e w'=>e= .returned (.bool true)∧Below w.heap.size w w':=by
 have hb:bs.size<9223372036854775808:=Nat.lt_of_le_of_lt hs (by decide)
 have hC:=C_S_ok 0 false true true (by decide)
 have hF:=Same_nil (de:=true) (nil:=true) 0 0 cap0 0 cap1 0 cap3 ad0 ad1 ad3 (fun _=>false) bs mk0 v0 (fun _=>0#64) hb (by decide)
 simp only [lwA,lwB,List.cons_append,List.nil_append,List.append_nil,List.tail_cons] at hF
 exact law_of_FIH (ρ:=(rhoS ⟨0,0,0⟩ ⟨0,0,0⟩ ⟨0,0,0⟩)) hC (by kernel_rfl) Tryd.func4 hF (fun m hm=>by
  rcases m with _ | _ | _ | m
  · omega
  · omega
  · omega
  · exact absurd rfl hm) (by simp [AV.names,L.names,lnames,Ep.look]) hG ⟨fun _=>rfl,fun _=>rfl,⟨_,rfl,⟨_,_,rfl,⟨_,rfl,fun _=>rfl⟩,_,_,rfl,⟨_,rfl,fun _=>rfl⟩,_,_,rfl,⟨_,rfl,fun _=>rfl⟩,_,_,rfl,⟨_,rfl,fun _=>rfl⟩,rfl⟩⟩,trivial⟩ (RelH.ros fun i c hi=>by
  rcases i with _ | _ | _ | i
  · exact absurd (show (none:Option Blk)=some c from hi) (by simp)
  · exact absurd (show (none:Option Blk)=some c from hi) (by simp)
  · exact absurd (show (none:Option Blk)=some c from hi) (by simp)
  · exact absurd (show (none:Option Blk)=some c from hi) (by simp))
set_option maxRecDepth 100000 in
theorem Same_w001 (w:World) (hG:Gbar w) (ad0:Option Addr) (cap0:Nat) (ad1:Option Addr) (cap1:Nat) (bs:ByteArray) (mk0:BitVec 64) (v0:Value) (hs:bs.size≤maxLen) (b3 o3 len3 cap3:Nat) (cs3:Array Value) (T3:TypeId) (fr3:Nat×Nat) (us3 ws3:List Value) (f3:Nat→List PL) (hpos3:0<len3) (hlen3:len3≤maxLen) (hblk3:w.heap[b3]? =some (.cells cs3 T3 fr3)) (hdrop3:cs3.toList.drop o3=us3++ws3) (hseg3:SegV 1 len3 f3 us3) (hok3:∀ k,oksP [Leaf.int .u64] (f3 k)) :
 Calls Tryd.prog 4 #[.slice ad0 0 cap0,.slice ad1 0 cap1,.agg #[.string bs,gL (fun _=>⟨0,0,0⟩) (.b64 false mk0),v0,.slice (some ⟨b3,o3,none⟩) len3 cap3]] w fun e w'=>e= .returned (.bool true)∧Below w.heap.size w w':=by
 have hb:bs.size<9223372036854775808:=Nat.lt_of_le_of_lt hs (by decide)
 obtain ⟨X,rfl⟩:=u64_ofS hok3
 have hd:len3<9223372036854775808:=Nat.lt_of_le_of_lt hlen3 (by decide)
 have hC:=C_S_ok 0 false false true (by decide)
 have hF:=Same_nil (de:=false) (nil:=true) 0 T3 cap0 0 cap1 len3 0 ad0 ad1 none (fun _=>false) bs mk0 v0 X hb hd
 simp only [lwA,lwB,List.cons_append,List.nil_append,List.append_nil,List.tail_cons] at hF
 exact law_of_FIH (ρ:=(rhoS ⟨0,0,0⟩ ⟨0,0,0⟩ ⟨b3,o3,cap3⟩)) hC (by kernel_rfl) Tryd.func4 hF (fun m hm=>by
  rcases m with _ | _ | _ | m
  · omega
  · omega
  · omega
  · exact absurd rfl hm) (by simp [AV.names,L.names,lnames,Ep.look]) hG ⟨fun _=>rfl,fun _=>rfl,⟨_,rfl,⟨_,_,rfl,⟨_,rfl,fun _=>rfl⟩,_,_,rfl,⟨_,rfl,fun _=>rfl⟩,_,_,rfl,⟨_,rfl,fun _=>rfl⟩,_,_,rfl,⟨_,rfl,fun _=>by simp [gL,rhoS]⟩,rfl⟩⟩,trivial⟩ (RelH.ros fun i c hi=>by
  rcases i with _ | _ | _ | i
  · exact absurd (show (none:Option Blk)=some c from hi) (by simp)
  · exact absurd (show (none:Option Blk)=some c from hi) (by simp)
  · cases hi;exact ⟨_,_,cs3,fr3,us3,ws3,rfl,rfl,hblk3,hdrop3,⟨us3,[],by simp,hseg3,rfl⟩⟩
  · exact absurd (show (none:Option Blk)=some c from hi) (by simp))
set_option maxRecDepth 100000 in
theorem Same_w010 (w:World) (hG:Gbar w) (ad0:Option Addr) (cap0:Nat) (b1 o1 len1 cap1:Nat) (cs1:Array Value) (T1:TypeId) (fr1:Nat×Nat) (us1 ws1:List Value) (f1:Nat→List PL) (hpos1:0<len1) (hlen1:len1≤maxLen) (hblk1:w.heap[b1]? =some (.cells cs1 T1 fr1)) (hdrop1:cs1.toList.drop o1=us1++ws1) (hseg1:SegV 1 len1 f1 us1) (hok1:∀ k,oksP [Leaf.bool] (f1 k)) (bs:ByteArray) (mk0:BitVec 64) (v0:Value) (hs:bs.size≤maxLen) (ad3:Option Addr) (cap3:Nat) :
 Calls Tryd.prog 4 #[.slice ad0 0 cap0,.slice (some ⟨b1,o1,none⟩) len1 cap1,.agg #[.string bs,gL (fun _=>⟨0,0,0⟩) (.b64 false mk0),v0,.slice ad3 0 cap3]] w fun e w'=>e= .returned (.bool true)∧Below w.heap.size w w':=by
 have hb:bs.size<9223372036854775808:=Nat.lt_of_le_of_lt hs (by decide)
 obtain ⟨st,rfl⟩:=bool_ofS hok1
 have hn:len1<9223372036854775808:=Nat.lt_of_le_of_lt hlen1 (by decide)
 have hC:=C_S_ok 0 false true false (by decide)
 have hF:=Same_nil (de:=true) (nil:=false) T1 0 cap0 len1 cap1 0 cap3 ad0 none ad3 st bs mk0 v0 (fun _=>0#64) hb (by decide)
 simp only [lwA,lwB,List.cons_append,List.nil_append,List.append_nil,List.tail_cons] at hF
 exact law_of_FIH (ρ:=(rhoS ⟨0,0,0⟩ ⟨b1,o1,0⟩ ⟨0,0,0⟩)) hC (by kernel_rfl) Tryd.func4 hF (fun m hm=>by
  rcases m with _ | _ | _ | m
  · omega
  · omega
  · omega
  · exact absurd rfl hm) (by simp [AV.names,L.names,lnames,Ep.look]) hG ⟨fun _=>rfl,fun _=>by simp [gL,rhoS],⟨_,rfl,⟨_,_,rfl,⟨_,rfl,fun _=>rfl⟩,_,_,rfl,⟨_,rfl,fun _=>rfl⟩,_,_,rfl,⟨_,rfl,fun _=>rfl⟩,_,_,rfl,⟨_,rfl,fun _=>rfl⟩,rfl⟩⟩,trivial⟩ (RelH.ros fun i c hi=>by
  rcases i with _ | _ | _ | i
  · exact absurd (show (none:Option Blk)=some c from hi) (by simp)
  · cases hi;exact ⟨_,_,cs1,fr1,us1,ws1,rfl,rfl,hblk1,hdrop1,⟨us1,[],by simp,hseg1,rfl⟩⟩
  · exact absurd (show (none:Option Blk)=some c from hi) (by simp)
  · exact absurd (show (none:Option Blk)=some c from hi) (by simp))
set_option maxRecDepth 100000 in
theorem Same_w011 (w:World) (hG:Gbar w) (ad0:Option Addr) (cap0:Nat) (b1 o1 len1 cap1:Nat) (cs1:Array Value) (T1:TypeId) (fr1:Nat×Nat) (us1 ws1:List Value) (f1:Nat→List PL) (hpos1:0<len1) (hlen1:len1≤maxLen) (hblk1:w.heap[b1]? =some (.cells cs1 T1 fr1)) (hdrop1:cs1.toList.drop o1=us1++ws1) (hseg1:SegV 1 len1 f1 us1) (hok1:∀ k,oksP [Leaf.bool] (f1 k)) (bs:ByteArray) (mk0:BitVec 64) (v0:Value) (hs:bs.size≤maxLen) (b3 o3 len3 cap3:Nat) (cs3:Array Value) (T3:TypeId) (fr3:Nat×Nat) (us3 ws3:List Value) (f3:Nat→List PL) (hpos3:0<len3) (hlen3:len3≤maxLen) (hblk3:w.heap[b3]? =some (.cells cs3 T3 fr3)) (hdrop3:cs3.toList.drop o3=us3++ws3) (hseg3:SegV 1 len3 f3 us3) (hok3:∀ k,oksP [Leaf.int .u64] (f3 k)) :
 Calls Tryd.prog 4 #[.slice ad0 0 cap0,.slice (some ⟨b1,o1,none⟩) len1 cap1,.agg #[.string bs,gL (fun _=>⟨0,0,0⟩) (.b64 false mk0),v0,.slice (some ⟨b3,o3,none⟩) len3 cap3]] w fun e w'=>e= .returned (.bool true)∧Below w.heap.size w w':=by
 have hb:bs.size<9223372036854775808:=Nat.lt_of_le_of_lt hs (by decide)
 obtain ⟨st,rfl⟩:=bool_ofS hok1
 have hn:len1<9223372036854775808:=Nat.lt_of_le_of_lt hlen1 (by decide)
 obtain ⟨X,rfl⟩:=u64_ofS hok3
 have hd:len3<9223372036854775808:=Nat.lt_of_le_of_lt hlen3 (by decide)
 have hC:=C_S_ok 0 false false false (by decide)
 have hF:=Same_nil (de:=false) (nil:=false) T1 T3 cap0 len1 cap1 len3 0 ad0 none none st bs mk0 v0 X hb hd
 simp only [lwA,lwB,List.cons_append,List.nil_append,List.append_nil,List.tail_cons] at hF
 exact law_of_FIH (ρ:=(rhoS ⟨0,0,0⟩ ⟨b1,o1,0⟩ ⟨b3,o3,cap3⟩)) hC (by kernel_rfl) Tryd.func4 hF (fun m hm=>by
  rcases m with _ | _ | _ | m
  · omega
  · omega
  · omega
  · exact absurd rfl hm) (by simp [AV.names,L.names,lnames,Ep.look]) hG ⟨fun _=>rfl,fun _=>by simp [gL,rhoS],⟨_,rfl,⟨_,_,rfl,⟨_,rfl,fun _=>rfl⟩,_,_,rfl,⟨_,rfl,fun _=>rfl⟩,_,_,rfl,⟨_,rfl,fun _=>rfl⟩,_,_,rfl,⟨_,rfl,fun _=>by simp [gL,rhoS]⟩,rfl⟩⟩,trivial⟩ (RelH.ros fun i c hi=>by
  rcases i with _ | _ | _ | i
  · exact absurd (show (none:Option Blk)=some c from hi) (by simp)
  · cases hi;exact ⟨_,_,cs1,fr1,us1,ws1,rfl,rfl,hblk1,hdrop1,⟨us1,[],by simp,hseg1,rfl⟩⟩
  · cases hi;exact ⟨_,_,cs3,fr3,us3,ws3,rfl,rfl,hblk3,hdrop3,⟨us3,[],by simp,hseg3,rfl⟩⟩
  · exact absurd (show (none:Option Blk)=some c from hi) (by simp))
set_option maxRecDepth 100000 in
theorem Same_w100 (w:World) (hG:Gbar w) (b0 o0 len0 cap0:Nat) (cs0:Array Value) (T0:TypeId) (fr0:Nat×Nat) (us0 ws0:List Value) (f0:Nat→List PL) (hpos0:0<len0) (hlen0:len0≤maxLen) (hblk0:w.heap[b0]? =some (.cells cs0 T0 fr0)) (hdrop0:cs0.toList.drop o0=us0++ws0) (hseg0:SegV 5 len0 f0 us0) (hok0:∀ k,oksP [Leaf.int .u8,Leaf.int .u8,Leaf.int .u8,Leaf.int .i16,Leaf.int .i32] (f0 k)) (ad1:Option Addr) (cap1:Nat) (bs:ByteArray) (mk0:BitVec 64) (v0:Value) (hs:bs.size≤maxLen) (ad3:Option Addr) (cap3:Nat) :
 Calls Tryd.prog 4 #[.slice (some ⟨b0,o0,none⟩) len0 cap0,.slice ad1 0 cap1,.agg #[.string bs,gL (fun _=>⟨0,0,0⟩) (.b64 false mk0),v0,.slice ad3 0 cap3]] w fun e w'=>e= .returned (.bool true)∧Below w.heap.size w w':=by
 have hb:bs.size<9223372036854775808:=Nat.lt_of_le_of_lt hs (by decide)
 obtain ⟨x,rfl⟩:=in_ofS hok0
 have hl:len0<9223372036854775808:=Nat.lt_of_le_of_lt hlen0 (by decide)
 obtain ⟨C,hC,hF⟩:=Same_all (de:=true) (nil:=true) T0 0 0 len0 cap0 0 cap1 0 cap3 ad1 ad3 x (fun _=>false) bs mk0 v0 (fun _=>0#64) hl hb (by decide) (by decide) (fun h=>by cases h) (fun _=>⟨rfl,rfl⟩) (fun _=>⟨rfl,rfl⟩)
 simp only [lwA,lwB,List.cons_append,List.nil_append,List.append_nil] at hF
 exact law_of_FIH (ρ:=(rhoS ⟨b0,o0,0⟩ ⟨0,0,0⟩ ⟨0,0,0⟩)) hC (by kernel_rfl) Tryd.func4 hF (fun m hm=>by
  rcases m with _ | _ | _ | m
  · omega
  · omega
  · omega
  · exact absurd rfl hm) (by simp [AV.names,L.names,lnames,Ep.look]) hG ⟨fun _=>by simp [gL,rhoS],fun _=>rfl,⟨_,rfl,⟨_,_,rfl,⟨_,rfl,fun _=>rfl⟩,_,_,rfl,⟨_,rfl,fun _=>rfl⟩,_,_,rfl,⟨_,rfl,fun _=>rfl⟩,_,_,rfl,⟨_,rfl,fun _=>rfl⟩,rfl⟩⟩,trivial⟩ (RelH.ros fun i c hi=>by
  rcases i with _ | _ | _ | i
  · cases hi;exact ⟨_,_,cs0,fr0,us0,ws0,rfl,rfl,hblk0,hdrop0,⟨us0,[],by simp,hseg0,rfl⟩⟩
  · exact absurd (show (none:Option Blk)=some c from hi) (by simp)
  · exact absurd (show (none:Option Blk)=some c from hi) (by simp)
  · exact absurd (show (none:Option Blk)=some c from hi) (by simp))
set_option maxRecDepth 100000 in
theorem Same_w101 (w:World) (hG:Gbar w) (b0 o0 len0 cap0:Nat) (cs0:Array Value) (T0:TypeId) (fr0:Nat×Nat) (us0 ws0:List Value) (f0:Nat→List PL) (hpos0:0<len0) (hlen0:len0≤maxLen) (hblk0:w.heap[b0]? =some (.cells cs0 T0 fr0)) (hdrop0:cs0.toList.drop o0=us0++ws0) (hseg0:SegV 5 len0 f0 us0) (hok0:∀ k,oksP [Leaf.int .u8,Leaf.int .u8,Leaf.int .u8,Leaf.int .i16,Leaf.int .i32] (f0 k)) (ad1:Option Addr) (cap1:Nat) (bs:ByteArray) (mk0:BitVec 64) (v0:Value) (hs:bs.size≤maxLen) (b3 o3 len3 cap3:Nat) (cs3:Array Value) (T3:TypeId) (fr3:Nat×Nat) (us3 ws3:List Value) (f3:Nat→List PL) (hpos3:0<len3) (hlen3:len3≤maxLen) (hblk3:w.heap[b3]? =some (.cells cs3 T3 fr3)) (hdrop3:cs3.toList.drop o3=us3++ws3) (hseg3:SegV 1 len3 f3 us3) (hok3:∀ k,oksP [Leaf.int .u64] (f3 k)) :
 Calls Tryd.prog 4 #[.slice (some ⟨b0,o0,none⟩) len0 cap0,.slice ad1 0 cap1,.agg #[.string bs,gL (fun _=>⟨0,0,0⟩) (.b64 false mk0),v0,.slice (some ⟨b3,o3,none⟩) len3 cap3]] w fun e w'=>e= .returned (.bool true)∧Below w.heap.size w w':=by
 have hb:bs.size<9223372036854775808:=Nat.lt_of_le_of_lt hs (by decide)
 obtain ⟨x,rfl⟩:=in_ofS hok0
 have hl:len0<9223372036854775808:=Nat.lt_of_le_of_lt hlen0 (by decide)
 obtain ⟨X,rfl⟩:=u64_ofS hok3
 have hd:len3<9223372036854775808:=Nat.lt_of_le_of_lt hlen3 (by decide)
 obtain ⟨C,hC,hF⟩:=Same_all (de:=false) (nil:=true) T0 0 T3 len0 cap0 0 cap1 len3 0 ad1 none x (fun _=>false) bs mk0 v0 X hl hb hd (by decide) (fun _=>by omega) (fun h=>by cases h) (fun _=>⟨rfl,rfl⟩)
 simp only [lwA,lwB,List.cons_append,List.nil_append,List.append_nil] at hF
 exact law_of_FIH (ρ:=(rhoS ⟨b0,o0,0⟩ ⟨0,0,0⟩ ⟨b3,o3,cap3⟩)) hC (by kernel_rfl) Tryd.func4 hF (fun m hm=>by
  rcases m with _ | _ | _ | m
  · omega
  · omega
  · omega
  · exact absurd rfl hm) (by simp [AV.names,L.names,lnames,Ep.look]) hG ⟨fun _=>by simp [gL,rhoS],fun _=>rfl,⟨_,rfl,⟨_,_,rfl,⟨_,rfl,fun _=>rfl⟩,_,_,rfl,⟨_,rfl,fun _=>rfl⟩,_,_,rfl,⟨_,rfl,fun _=>rfl⟩,_,_,rfl,⟨_,rfl,fun _=>by simp [gL,rhoS]⟩,rfl⟩⟩,trivial⟩ (RelH.ros fun i c hi=>by
  rcases i with _ | _ | _ | i
  · cases hi;exact ⟨_,_,cs0,fr0,us0,ws0,rfl,rfl,hblk0,hdrop0,⟨us0,[],by simp,hseg0,rfl⟩⟩
  · exact absurd (show (none:Option Blk)=some c from hi) (by simp)
  · cases hi;exact ⟨_,_,cs3,fr3,us3,ws3,rfl,rfl,hblk3,hdrop3,⟨us3,[],by simp,hseg3,rfl⟩⟩
  · exact absurd (show (none:Option Blk)=some c from hi) (by simp))
set_option maxRecDepth 100000 in
theorem Same_w110 (w:World) (hG:Gbar w) (b0 o0 len0 cap0:Nat) (cs0:Array Value) (T0:TypeId) (fr0:Nat×Nat) (us0 ws0:List Value) (f0:Nat→List PL) (hpos0:0<len0) (hlen0:len0≤maxLen) (hblk0:w.heap[b0]? =some (.cells cs0 T0 fr0)) (hdrop0:cs0.toList.drop o0=us0++ws0) (hseg0:SegV 5 len0 f0 us0) (hok0:∀ k,oksP [Leaf.int .u8,Leaf.int .u8,Leaf.int .u8,Leaf.int .i16,Leaf.int .i32] (f0 k)) (b1 o1 len1 cap1:Nat) (cs1:Array Value) (T1:TypeId) (fr1:Nat×Nat) (us1 ws1:List Value) (f1:Nat→List PL) (hpos1:0<len1) (hlen1:len1≤maxLen) (hblk1:w.heap[b1]? =some (.cells cs1 T1 fr1)) (hdrop1:cs1.toList.drop o1=us1++ws1) (hseg1:SegV 1 len1 f1 us1) (hok1:∀ k,oksP [Leaf.bool] (f1 k)) (bs:ByteArray) (mk0:BitVec 64) (v0:Value) (hs:bs.size≤maxLen) (ad3:Option Addr) (cap3:Nat) :
 Calls Tryd.prog 4 #[.slice (some ⟨b0,o0,none⟩) len0 cap0,.slice (some ⟨b1,o1,none⟩) len1 cap1,.agg #[.string bs,gL (fun _=>⟨0,0,0⟩) (.b64 false mk0),v0,.slice ad3 0 cap3]] w fun e w'=>e= .returned (.bool true)∧Below w.heap.size w w':=by
 have hb:bs.size<9223372036854775808:=Nat.lt_of_le_of_lt hs (by decide)
 obtain ⟨x,rfl⟩:=in_ofS hok0
 have hl:len0<9223372036854775808:=Nat.lt_of_le_of_lt hlen0 (by decide)
 obtain ⟨st,rfl⟩:=bool_ofS hok1
 have hn:len1<9223372036854775808:=Nat.lt_of_le_of_lt hlen1 (by decide)
 obtain ⟨C,hC,hF⟩:=Same_all (de:=true) (nil:=false) T0 T1 0 len0 cap0 len1 cap1 0 cap3 none ad3 x st bs mk0 v0 (fun _=>0#64) hl hb (by decide) hn (fun h=>by cases h) (fun _=>⟨rfl,rfl⟩) (fun h=>by cases h)
 simp only [lwA,lwB,List.cons_append,List.nil_append,List.append_nil] at hF
 exact law_of_FIH (ρ:=(rhoS ⟨b0,o0,0⟩ ⟨b1,o1,0⟩ ⟨0,0,0⟩)) hC (by kernel_rfl) Tryd.func4 hF (fun m hm=>by
  rcases m with _ | _ | _ | m
  · omega
  · omega
  · omega
  · exact absurd rfl hm) (by simp [AV.names,L.names,lnames,Ep.look]) hG ⟨fun _=>by simp [gL,rhoS],fun _=>by simp [gL,rhoS],⟨_,rfl,⟨_,_,rfl,⟨_,rfl,fun _=>rfl⟩,_,_,rfl,⟨_,rfl,fun _=>rfl⟩,_,_,rfl,⟨_,rfl,fun _=>rfl⟩,_,_,rfl,⟨_,rfl,fun _=>rfl⟩,rfl⟩⟩,trivial⟩ (RelH.ros fun i c hi=>by
  rcases i with _ | _ | _ | i
  · cases hi;exact ⟨_,_,cs0,fr0,us0,ws0,rfl,rfl,hblk0,hdrop0,⟨us0,[],by simp,hseg0,rfl⟩⟩
  · cases hi;exact ⟨_,_,cs1,fr1,us1,ws1,rfl,rfl,hblk1,hdrop1,⟨us1,[],by simp,hseg1,rfl⟩⟩
  · exact absurd (show (none:Option Blk)=some c from hi) (by simp)
  · exact absurd (show (none:Option Blk)=some c from hi) (by simp))
set_option maxRecDepth 100000 in
theorem Same_w111 (w:World) (hG:Gbar w) (b0 o0 len0 cap0:Nat) (cs0:Array Value) (T0:TypeId) (fr0:Nat×Nat) (us0 ws0:List Value) (f0:Nat→List PL) (hpos0:0<len0) (hlen0:len0≤maxLen) (hblk0:w.heap[b0]? =some (.cells cs0 T0 fr0)) (hdrop0:cs0.toList.drop o0=us0++ws0) (hseg0:SegV 5 len0 f0 us0) (hok0:∀ k,oksP [Leaf.int .u8,Leaf.int .u8,Leaf.int .u8,Leaf.int .i16,Leaf.int .i32] (f0 k)) (b1 o1 len1 cap1:Nat) (cs1:Array Value) (T1:TypeId) (fr1:Nat×Nat) (us1 ws1:List Value) (f1:Nat→List PL) (hpos1:0<len1) (hlen1:len1≤maxLen) (hblk1:w.heap[b1]? =some (.cells cs1 T1 fr1)) (hdrop1:cs1.toList.drop o1=us1++ws1) (hseg1:SegV 1 len1 f1 us1) (hok1:∀ k,oksP [Leaf.bool] (f1 k)) (bs:ByteArray) (mk0:BitVec 64) (v0:Value) (hs:bs.size≤maxLen) (b3 o3 len3 cap3:Nat) (cs3:Array Value) (T3:TypeId) (fr3:Nat×Nat) (us3 ws3:List Value) (f3:Nat→List PL) (hpos3:0<len3) (hlen3:len3≤maxLen) (hblk3:w.heap[b3]? =some (.cells cs3 T3 fr3)) (hdrop3:cs3.toList.drop o3=us3++ws3) (hseg3:SegV 1 len3 f3 us3) (hok3:∀ k,oksP [Leaf.int .u64] (f3 k)) :
 Calls Tryd.prog 4 #[.slice (some ⟨b0,o0,none⟩) len0 cap0,.slice (some ⟨b1,o1,none⟩) len1 cap1,.agg #[.string bs,gL (fun _=>⟨0,0,0⟩) (.b64 false mk0),v0,.slice (some ⟨b3,o3,none⟩) len3 cap3]] w fun e w'=>e= .returned (.bool true)∧Below w.heap.size w w':=by
 have hb:bs.size<9223372036854775808:=Nat.lt_of_le_of_lt hs (by decide)
 obtain ⟨x,rfl⟩:=in_ofS hok0
 have hl:len0<9223372036854775808:=Nat.lt_of_le_of_lt hlen0 (by decide)
 obtain ⟨st,rfl⟩:=bool_ofS hok1
 have hn:len1<9223372036854775808:=Nat.lt_of_le_of_lt hlen1 (by decide)
 obtain ⟨X,rfl⟩:=u64_ofS hok3
 have hd:len3<9223372036854775808:=Nat.lt_of_le_of_lt hlen3 (by decide)
 obtain ⟨C,hC,hF⟩:=Same_all (de:=false) (nil:=false) T0 T1 T3 len0 cap0 len1 cap1 len3 0 none none x st bs mk0 v0 X hl hb hd hn (fun _=>by omega) (fun h=>by cases h) (fun h=>by cases h)
 simp only [lwA,lwB,List.cons_append,List.nil_append,List.append_nil] at hF
 exact law_of_FIH (ρ:=(rhoS ⟨b0,o0,0⟩ ⟨b1,o1,0⟩ ⟨b3,o3,cap3⟩)) hC (by kernel_rfl) Tryd.func4 hF (fun m hm=>by
  rcases m with _ | _ | _ | m
  · omega
  · omega
  · omega
  · exact absurd rfl hm) (by simp [AV.names,L.names,lnames,Ep.look]) hG ⟨fun _=>by simp [gL,rhoS],fun _=>by simp [gL,rhoS],⟨_,rfl,⟨_,_,rfl,⟨_,rfl,fun _=>rfl⟩,_,_,rfl,⟨_,rfl,fun _=>rfl⟩,_,_,rfl,⟨_,rfl,fun _=>rfl⟩,_,_,rfl,⟨_,rfl,fun _=>by simp [gL,rhoS]⟩,rfl⟩⟩,trivial⟩ (RelH.ros fun i c hi=>by
  rcases i with _ | _ | _ | i
  · cases hi;exact ⟨_,_,cs0,fr0,us0,ws0,rfl,rfl,hblk0,hdrop0,⟨us0,[],by simp,hseg0,rfl⟩⟩
  · cases hi;exact ⟨_,_,cs1,fr1,us1,ws1,rfl,rfl,hblk1,hdrop1,⟨us1,[],by simp,hseg1,rfl⟩⟩
  · cases hi;exact ⟨_,_,cs3,fr3,us3,ws3,rfl,rfl,hblk3,hdrop3,⟨us3,[],by simp,hseg3,rfl⟩⟩
  · exact absurd (show (none:Option Blk)=some c from hi) (by simp))
end Go.Proofs.YthkgakelgdncjaaDoor
