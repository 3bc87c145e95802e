/- HardenSame: a layout, and a start of it: contracts. Conditions: as typed. -/
import Derived.Test.YthkgakelgdncjaaDoorMj
namespace Go.Proofs.YthkgakelgdncjaaDoor
open Go.Ep Go.RowKit
set_option linter.unusedVariables false
set_option linter.unusedSimpArgs false
noncomputable abbrev C_la:Table:=⟨(tabM noData [] []).fn,noData.glob,noData.look,fun _ _ _ _ _=>Stuck "call",.sym,0,0,[],fun _ _ _=>none,[]⟩
theorem C_la_ok:CSound Tryd.prog anyWorld C_la:=(CSound.startM CSound.start).inl' (InlOK.none _ _) .sym 0 0 [] []
def layN (v:BitVec 8):BitVec 64:=(BitVec.setWidth 64 v).srem 3#64
def layP (v:BitVec 8):BitVec 64:=((BitVec.setWidth 64 v).sdiv 3#64).srem 16#64
theorem lay_n:∀ v:BitVec 8,0≤(layN v).toInt∧(layN v).toNat≤2:=by decide +kernel
theorem lay_p:∀ v:BitVec 8,(layP v).toNat≤15:=by decide +kernel
def sp_lay:SpN:=fun args ch=>match args,ch with
 | [.one (.b8 false v)],[]=>some (.t,.agg [.rsl 0 (layN v).toNat,.b64 true (layP v)],[.row 64 4 2 mapF2])
 | _,_=>none
set_option maxRecDepth 100000 in
theorem Lay_walk (v:BitVec 8):FI Tryd.prog C_la Tryd.f10 0 [.one (.b8 false v)] [] (OutN [] (.agg [.rsl 0 (layN v).toNat,.b64 true (layP v)]) [.row 64 4 2 mapF2]):=by
 repeat' (first
  | (with_reducible apply Given.mk;intro h;(try exact absurd h (by decide)))
  | ((conv=>whnf);with_reducible apply Both.mk))
 all_goals first
  | ((with_reducible apply Ob.mk);first | decide | exact (lay_n v).1 | exact (lay_n v).2)
  | ((conv=>whnf);exact ⟨[6],rfl,rfl,fun b hb=>(by simp only [List.mem_singleton] at hb;subst hb;exact ⟨rfl,rfl⟩),rfl,fun i d h=>(by have h':(none:Option Blk)=some d:=h;cases h'),by kernel_rfl,trivial⟩)
  | ((conv=>whnf);skip)
set_option maxRecDepth 100000 in
theorem e_lay:EntryN Tryd.prog anyWorld 10 sp_lay:=by
 refine .of_FI C_la_ok (by kernel_rfl) Tryd.func10 (by kernel_rfl) (by kernel_rfl) (fun args ch c v fr h hc=> ?_)
 unfold sp_lay at h
 split at h
 · cases h
   exact Lay_walk _
 · cases h
def stC (bs:ByteArray) (j:Nat):BitVec 8:=bif (BitVec.ofNat 64 j).slt (BitVec.ofNat 64 bs.size) then byteAt bs (BitVec.ofNat 64 j).toNat else BitVec.signExtend 8 (BitVec.ofNat 64 j)
def stP (bs:ByteArray):Nat→ByteArray
 | 0=>{ data:=#[] }
 | j + 1=>catB (stP bs j) { data:={ toList:=[{ toBitVec:=stC bs j }] } }
def stM (bs:ByteArray):Nat→BitVec 64
 | 0=>0#64
 | j + 1=>stM bs j*257#64 + BitVec.setWidth 64 (stC bs j)
theorem stP_size (bs:ByteArray):∀ j,(stP bs j).size=j
 | 0=>rfl
 | j + 1=>by
   show (catB (stP bs j) _).size=j + 1
   rw [catB_size,stP_size bs j];rfl
theorem st_lt {t:Nat} {p:BitVec 64} (ht:t≤p.toNat) (hm:p.toNat≤15):(BitVec.ofNat 64 t).slt p=decide (t<p.toNat):=by
 have e:p=BitVec.ofNat 64 p.toNat:=BitVec.eq_of_toNat_eq (by rw [BitVec.toNat_ofNat,Nat.mod_eq_of_lt p.isLt])
 obtain ⟨k,hk,rfl⟩:∃ k,p.toNat=k∧p=BitVec.ofNat 64 k:=⟨_,rfl,e⟩
 rw [hk] at ht hm ⊢
 exact slt_nat (by omega) (by omega)
theorem st_go {t:Nat} {p:BitVec 64} (ht:t≤p.toNat) (hm:p.toNat≤15) (h:(BitVec.ofNat 64 t).slt p=true):t + 1≤p.toNat:=by
 rw [st_lt ht hm,decide_eq_true_eq] at h;exact h
theorem st_end {t:Nat} {p:BitVec 64} (ht:t≤p.toNat) (hm:p.toNat≤15) (h:(BitVec.ofNat 64 t).slt p=false):p.toNat=t:=by
 rw [st_lt ht hm,decide_eq_false_iff_not] at h;omega
theorem st_ix {t:Nat} {bs:ByteArray} (ht:t≤15) (hb:bs.size<9223372036854775808) (h:(BitVec.ofNat 64 t).slt (BitVec.ofNat 64 bs.size)=true):0≤(BitVec.ofNat 64 t).toInt∧(BitVec.ofNat 64 t).toNat<bs.size:=by
 rw [slt_nat (by omega) hb,decide_eq_true_eq] at h
 exact ix_ofNat (by omega) h
theorem sL_t {bs:ByteArray} {j:Nat} (h:(BitVec.ofNat 64 j).slt (BitVec.ofNat 64 bs.size)=true) {a b:L}:Blk.cells 35 [.str (catB (stP bs j) { data:={ toList:=[{ toBitVec:=byteAt bs (BitVec.ofNat 64 j).toNat }] } }),.b64 false (stM bs j*257#64 + BitVec.setWidth 64 (byteAt bs (BitVec.ofNat 64 j).toNat)),a,b]=Blk.cells 35 [.str (stP bs (j + 1)),.b64 false (stM bs (j + 1)),a,b]:=by
 simp only [stP,stM,stC,h,cond_true]
theorem sL_f {bs:ByteArray} {j:Nat} (h:(BitVec.ofNat 64 j).slt (BitVec.ofNat 64 bs.size)=false) {a b:L}:Blk.cells 35 [.str (catB (stP bs j) { data:={ toList:=[{ toBitVec:=BitVec.signExtend 8 (BitVec.ofNat 64 j) }] } }),.b64 false (stM bs j*257#64 + BitVec.setWidth 64 (BitVec.signExtend 8 (BitVec.ofNat 64 j))),a,b]=Blk.cells 35 [.str (stP bs (j + 1)),.b64 false (stM bs (j + 1)),a,b]:=by
 simp only [stP,stM,stC,h,cond_false]
set_option maxRecDepth 100000 in
set_option maxHeartbeats 16000000 in
theorem Sta_0 (TD:TypeId) (fm:Nat→List PL) (k nd dc:Nat) (ad:Option Addr) (pl:BitVec 64) (bs:ByteArray) (X:Nat→BitVec 64) (hp:pl.toNat≤15) (hb:bs.size<9223372036854775808):FI Tryd.prog C_la Tryd.f13 2 [.agg [.rsl 0 k,.b64 true pl],.one (.str bs),.one (.rsl 1 nd)] [(0,.row 64 4 2 fm),(1,.ro TD [.seg 1 nd (uF X)])] (OutN [(0,.row 64 4 2 fm),(1,.ro TD [.seg 1 nd (uF X)])] (.agg [.str (stP bs pl.toNat),.b64 false (stM bs pl.toNat),.raw (.slice none 0 0),.rsl 1 nd]) []):=by
 repeat' (first
  | (with_reducible apply Given.mk;intro h;(try exact absurd h (by decide)))
  | ((conv=>whnf);first
    | with_reducible apply Both.mk
    | (refine LoopP.mk (Nat) ((fun j=>j≤pl.toNat)) ((fun j=>mkS (Tryd.f13).ntmps [(1,.one (.str bs)),(3,.one (.ptr 5 0)),(6,.one (.ptr 8 0)),(7,.one (.ptr 9 0)),(8,iN j)] [(9,.cells 35 [.str (stP bs j),.b64 false (stM bs j),.raw (.slice none 0 0),.rsl 1 nd]),(8,.cells 35 [.str { data:=#[] },.b64 false 0#64,.raw (.slice none 0 0),.raw (.slice none 0 0)]),(5,.cells 38 [.rsl 0 k,.b64 true pl]),(0,.row 64 4 2 fm),(1,.ro TD [.seg 1 nd (uF X)])])) ((fun j=>pl.toNat - j)) ⟨0,Nat.zero_le _,⟨?_,?_,?_,?_,?_⟩⟩ ?_;(iterate 2 (focus ((repeat' ((conv=>whnf);first | exact trivial | refine Both.mk (by first | with_reducible rfl | exact iN_succ _ | exact sL_t (by with_reducible assumption) | exact sL_f (by with_reducible assumption) | rfl) ?_));done)));(iterate 3 (focus exact rfl));(rintro j hj))))
 all_goals first
  | ((with_reducible apply Ob.mk);first
    | exact hb
    | (show Region.lexB _ _=true;kernel_rfl)
    | exact st_ix (Nat.le_trans hj hp) hb (by with_reducible assumption)
    | exact (st_ix (Nat.le_trans hj hp) hb (by with_reducible assumption)).2
    | ((show (stP bs j).size + 1< _);rw [stP_size];omega)
    | decide)
  | ((conv=>whnf);refine ⟨j + 1,(st_go hj hp (by with_reducible assumption)),(by have:=st_go hj hp (by with_reducible assumption);show pl.toNat - (j + 1)<pl.toNat - j;omega),⟨?_,?_,?_,?_,?_⟩⟩;(iterate 2 (focus ((repeat' ((conv=>whnf);first | exact trivial | refine Both.mk (by first | with_reducible rfl | exact iN_succ _ | exact sL_t (by with_reducible assumption) | exact sL_f (by with_reducible assumption) | rfl) ?_));done)));(iterate 3 (focus exact rfl)))
  | ((conv=>whnf);(have e:=st_end hj hp h);rw [e];exact ⟨[],rfl,rfl,fun b hb=>absurd hb (List.not_mem_nil),rfl,fun _ _ h=>h,trivial⟩)
  | ((conv=>whnf);skip)
def sp_sta0:SpN:=fun args ch=>match args,ch with
 | [.agg [.rsl 0 k,.b64 true pl],.one (.str bs),.one (.rsl 1 nd)],[(0,.row 64 4 2 fm),(1,.ro TD [.seg 1 n2 fx])]=>some (.p (pl.toNat≤15∧bs.size<9223372036854775808∧nd=n2∧fx=uF (uOf fx)),(.agg [.str (stP bs pl.toNat),.b64 false (stM bs pl.toNat),.raw (.slice none 0 0),.rsl 1 nd]),[])
 | _,_=>none
set_option maxRecDepth 100000 in
theorem e_sta0:EntryN Tryd.prog anyWorld 13 sp_sta0:=by
 refine .of_FI C_la_ok (by kernel_rfl) Tryd.func13 (by kernel_rfl) (by kernel_rfl) (fun args ch c v fr h hc=> ?_)
 unfold sp_sta0 at h
 split at h
 · rename_i k pl bs nd fm TD n2 fx
   cases h
   obtain ⟨h1,h2,rfl,h4⟩:=hc
   generalize uOf fx=X at *
   subst h4
   exact Sta_0 TD fm k nd 0 none pl bs X h1 h2
 · cases h
set_option maxRecDepth 100000 in
set_option maxHeartbeats 16000000 in
theorem Sta_1 (TD:TypeId) (fm:Nat→List PL) (k nd dc:Nat) (ad:Option Addr) (pl:BitVec 64) (bs:ByteArray) (X:Nat→BitVec 64) (hp:pl.toNat≤15) (hb:bs.size<9223372036854775808):FI Tryd.prog C_la Tryd.f13 1 [.agg [.rsl 0 k,.b64 true pl],.one (.str bs),.one (.raw (.slice ad 0 dc))] [(0,.row 64 4 2 fm)] (OutN [(0,.row 64 4 2 fm)] (.agg [.str (stP bs pl.toNat),.b64 false (stM bs pl.toNat),.raw (.slice none 0 0),.raw (.slice ad 0 dc)]) []):=by
 repeat' (first
  | (with_reducible apply Given.mk;intro h;(try exact absurd h (by decide)))
  | ((conv=>whnf);first
    | with_reducible apply Both.mk
    | (refine LoopP.mk (Nat) ((fun j=>j≤pl.toNat)) ((fun j=>mkS (Tryd.f13).ntmps [(1,.one (.str bs)),(3,.one (.ptr 4 0)),(6,.one (.ptr 7 0)),(7,.one (.ptr 8 0)),(8,iN j)] [(8,.cells 35 [.str (stP bs j),.b64 false (stM bs j),.raw (.slice none 0 0),.raw (.slice ad 0 dc)]),(7,.cells 35 [.str { data:=#[] },.b64 false 0#64,.raw (.slice none 0 0),.raw (.slice none 0 0)]),(4,.cells 38 [.rsl 0 k,.b64 true pl]),(0,.row 64 4 2 fm)])) ((fun j=>pl.toNat - j)) ⟨0,Nat.zero_le _,⟨?_,?_,?_,?_,?_⟩⟩ ?_;(iterate 2 (focus ((repeat' ((conv=>whnf);first | exact trivial | refine Both.mk (by first | with_reducible rfl | exact iN_succ _ | exact sL_t (by with_reducible assumption) | exact sL_f (by with_reducible assumption) | rfl) ?_));done)));(iterate 3 (focus exact rfl));(rintro j hj))))
 all_goals first
  | ((with_reducible apply Ob.mk);first
    | exact hb
    | (show Region.lexB _ _=true;kernel_rfl)
    | exact st_ix (Nat.le_trans hj hp) hb (by with_reducible assumption)
    | exact (st_ix (Nat.le_trans hj hp) hb (by with_reducible assumption)).2
    | ((show (stP bs j).size + 1< _);rw [stP_size];omega)
    | decide)
  | ((conv=>whnf);refine ⟨j + 1,(st_go hj hp (by with_reducible assumption)),(by have:=st_go hj hp (by with_reducible assumption);show pl.toNat - (j + 1)<pl.toNat - j;omega),⟨?_,?_,?_,?_,?_⟩⟩;(iterate 2 (focus ((repeat' ((conv=>whnf);first | exact trivial | refine Both.mk (by first | with_reducible rfl | exact iN_succ _ | exact sL_t (by with_reducible assumption) | exact sL_f (by with_reducible assumption) | rfl) ?_));done)));(iterate 3 (focus exact rfl)))
  | ((conv=>whnf);(have e:=st_end hj hp h);rw [e];exact ⟨[],rfl,rfl,fun b hb=>absurd hb (List.not_mem_nil),rfl,fun _ _ h=>h,trivial⟩)
  | ((conv=>whnf);skip)
def sp_sta1:SpN:=fun args ch=>match args,ch with
 | [.agg [.rsl 0 k,.b64 true pl],.one (.str bs),.one (.raw (.slice ad 0 dc))],[(0,.row 64 4 2 fm)]=>some (.p (pl.toNat≤15∧bs.size<9223372036854775808),(.agg [.str (stP bs pl.toNat),.b64 false (stM bs pl.toNat),.raw (.slice none 0 0),.raw (.slice ad 0 dc)]),[])
 | _,_=>none
set_option maxRecDepth 100000 in
theorem e_sta1:EntryN Tryd.prog anyWorld 13 sp_sta1:=by
 refine .of_FI C_la_ok (by kernel_rfl) Tryd.func13 (by kernel_rfl) (by kernel_rfl) (fun args ch c v fr h hc=> ?_)
 unfold sp_sta1 at h
 split at h
 · rename_i k pl bs ad dc fm
   cases h
   obtain ⟨h1,h2⟩:=hc
   exact Sta_1 0 fm k 0 dc ad pl bs (fun _=>0#64) h1 h2
 · cases h
end Go.Proofs.YthkgakelgdncjaaDoor
