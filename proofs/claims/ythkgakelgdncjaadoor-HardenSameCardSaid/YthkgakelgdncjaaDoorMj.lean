/- HardenSame: memory of the document (regions): contracts. Conditions: as typed. -/
import Derived.Test.YthkgakelgdncjaaDoorOm
import Derived.Test.YthkgakelgdncjaaDoorChecked
import Derived.Test.YthkgakelgdncjaaDoorMd
namespace Go.Proofs.YthkgakelgdncjaaDoor
open Go.Ep Go.RowKit
set_option linter.unusedVariables false
set_option linter.unusedSimpArgs false
structure RG where
 b:BitVec 64
 d:ByteArray
 w:Bool
abbrev RT:=Nat→RG
def rgF (r:RT):Nat→List PL:=fun k=>[.b64 false (r k).b,.str (r k).d,.bool (r k).w]
def rgOf (f:Nat→List PL):RT:=fun k=>match f k with
 | [.b64 _ b,.str d,.bool w]=>⟨b,d,w⟩
 | _=>⟨0#64,⟨#[]⟩,false⟩
theorem rgOf_rgF (r:RT):rgOf (rgF r)=r:=rfl
def hitB (g:RG) (a n:BitVec 64):Bool:=g.b.ule a&&((a - g.b).ule (BitVec.ofNat 64 g.d.size)&&n.ule (BitVec.ofNat 64 g.d.size - (a - g.b)))
def atV (r:RT) (cnt:Nat) (a n:BitVec 64):BitVec 64:=match fstN (fun k=>hitB (r k) a n) cnt with
 | some k=>bv k
 | none=>BitVec.ofInt 64 (Int.negSucc 0)
structure RgOK (r:RT) (cnt:Nat):Prop where
 small:cnt≤1000
 size:∀ k,k<cnt→(r k).d.size<9223372036854775808
def numR (s:ByteArray):Nat→BitVec 64→BitVec 64
 | 0,v=>v
 | k + 1,v=>numR s k (v*256#64 + BitVec.setWidth 64 (byteAt s k))
def numV (s:ByteArray):BitVec 64:=numR s s.size 0#64
def textV (r:RT) (cnt:Nat) (a n:BitVec 64):ByteArray×BitVec 64:=
 if n.slt 0#64 then (⟨#[]⟩,2#64) else if n==0#64 then (⟨#[]⟩,0#64) else if (atV r cnt a n).slt 0#64 then (⟨#[]⟩,70#64)
 else (exB (r (atV r cnt a n).toNat).d (a - (r (atV r cnt a n).toNat).b).toNat (a - (r (atV r cnt a n).toNat).b + n).toNat,0#64)
def szB (n:BitVec 64):Bool:=n==1#64||(n==2#64||(n==4#64||n==8#64))
def readV (r:RT) (cnt:Nat) (a n:BitVec 64):BitVec 64×BitVec 64:=if szB n then (numV (textV r cnt a n).1,(textV r cnt a n).2) else (0#64,2#64)
theorem fst_spec {p:Nat→Bool} {n k:Nat} (h:fstN p n=some k):k<n∧p k=true:=by
 unfold fstN at h
 exact ⟨by simpa using List.mem_of_find?_eq_some h,List.find?_some h⟩
theorem at_none {r:RT} {cnt:Nat} {a n:BitVec 64} (h:∀ j,j<cnt→hitB (r j) a n=false):atV r cnt a n=BitVec.ofInt 64 (Int.negSucc 0):=by
 unfold atV;rw [fstN_none h]
theorem at_some {r:RT} {cnt k:Nat} {a n:BitVec 64} (hk:k<cnt) (h:hitB (r k) a n=true) (hj:∀ j,j<k→hitB (r j) a n=false):atV r cnt a n=bv k:=by
 unfold atV;rw [fstN_some hk h hj]
theorem lt_of_small {r:RT} {cnt:Nat} (R:RgOK r cnt):cnt<9223372036854775808:=by have:=R.small;omega
theorem k_lt {r:RT} {cnt k:Nat} (R:RgOK r cnt) (hk:k≤cnt) (h:(BitVec.ofNat 64 k).slt (BitVec.ofNat 64 cnt)=true):k<cnt∧(BitVec.ofNat 64 k).toNat=k:=by
 have:=R.small
 rw [slt_nat (by omega) (by omega),decide_eq_true_eq] at h
 exact ⟨h,nat_ofNat (by omega)⟩
theorem ix_k {r:RT} {cnt k:Nat} (R:RgOK r cnt) (hk:k≤cnt) (h:(BitVec.ofNat 64 k).slt (BitVec.ofNat 64 cnt)=true):0≤(BitVec.ofNat 64 k).toInt∧(BitVec.ofNat 64 k).toNat<cnt:=ix_ofNat (by have:=R.small;omega) (k_lt R hk h).1
theorem ix_k2 {r:RT} {cnt cnt' k:Nat} (R:RgOK r cnt) (hc:cnt≤cnt') (hk:k≤cnt) (h:(BitVec.ofNat 64 k).slt (BitVec.ofNat 64 cnt)=true):(BitVec.ofNat 64 k).toNat<cnt':=Nat.lt_of_lt_of_le (ix_k R hk h).2 hc
theorem nh_m {r:RT} {cnt k:Nat} {a n:BitVec 64} (R:RgOK r cnt) (q:k≤cnt∧∀ j,j<k→hitB (r j) a n=false) (h:(BitVec.ofNat 64 k).slt (BitVec.ofNat 64 cnt)=true) (hh:hitB (r k) a n=false):k + 1≤cnt∧∀ j,j<k + 1→hitB (r j) a n=false:=
 ⟨(k_lt R q.1 h).1,fun j hj=>by
   rcases Nat.lt_or_ge j k with g | g
   · exact q.2 j g
   · obtain rfl:j=k:=by omega
     exact hh⟩
theorem nh_1 {r:RT} {cnt k:Nat} {a n:BitVec 64} (R:RgOK r cnt) (q:k≤cnt∧∀ j,j<k→hitB (r j) a n=false) (h:(BitVec.ofNat 64 k).slt (BitVec.ofNat 64 cnt)=true) (h1:(r (BitVec.ofNat 64 k).toNat).b.ule a=false):k + 1≤cnt∧∀ j,j<k + 1→hitB (r j) a n=false:=
 nh_m R q h (by rw [(k_lt R q.1 h).2] at h1;unfold hitB;rw [h1];rfl)
theorem nh_2 {r:RT} {cnt k:Nat} {a n:BitVec 64} (R:RgOK r cnt) (q:k≤cnt∧∀ j,j<k→hitB (r j) a n=false) (h:(BitVec.ofNat 64 k).slt (BitVec.ofNat 64 cnt)=true) (h2:(a - (r (BitVec.ofNat 64 k).toNat).b).ule (BitVec.ofNat 64 (r (BitVec.ofNat 64 k).toNat).d.size)=false):k + 1≤cnt∧∀ j,j<k + 1→hitB (r j) a n=false:=
 nh_m R q h (by rw [(k_lt R q.1 h).2] at h2;unfold hitB;rw [h2];simp)
theorem nh_3 {r:RT} {cnt k:Nat} {a n:BitVec 64} (R:RgOK r cnt) (q:k≤cnt∧∀ j,j<k→hitB (r j) a n=false) (h:(BitVec.ofNat 64 k).slt (BitVec.ofNat 64 cnt)=true) (h3:n.ule (BitVec.ofNat 64 (r (BitVec.ofNat 64 k).toNat).d.size - (a - (r (BitVec.ofNat 64 k).toNat).b))=false):k + 1≤cnt∧∀ j,j<k + 1→hitB (r j) a n=false:=
 nh_m R q h (by rw [(k_lt R q.1 h).2] at h3;unfold hitB;rw [h3];simp)
theorem at_hit {r:RT} {cnt k:Nat} {a n:BitVec 64} (R:RgOK r cnt) (hk:k≤cnt) (hj:∀ j,j<k→hitB (r j) a n=false) (h:(BitVec.ofNat 64 k).slt (BitVec.ofNat 64 cnt)=true) (h1:(r (BitVec.ofNat 64 k).toNat).b.ule a=true)
 (h2:(a - (r (BitVec.ofNat 64 k).toNat).b).ule (BitVec.ofNat 64 (r (BitVec.ofNat 64 k).toNat).d.size)=true) (h3:n.ule (BitVec.ofNat 64 (r (BitVec.ofNat 64 k).toNat).d.size - (a - (r (BitVec.ofNat 64 k).toNat).b))=true):AV.one (L.b64 true (BitVec.ofNat 64 k))=AV.one (L.b64 true (atV r cnt a n)):=by
 rw [(k_lt R hk h).2] at h1 h2 h3
 rw [at_some (k_lt R hk h).1 (by unfold hitB;rw [h1,h2,h3];rfl) hj]
theorem at_end {r:RT} {cnt k:Nat} {a n:BitVec 64} (R:RgOK r cnt) (hk:k≤cnt) (hj:∀ j,j<k→hitB (r j) a n=false) (h:(BitVec.ofNat 64 k).slt (BitVec.ofNat 64 cnt)=false):AV.one (L.b64 true (BitVec.ofInt 64 (Int.negSucc 0)))=AV.one (L.b64 true (atV r cnt a n)):=by
 have hs:=R.small
 rw [slt_nat (by omega) (by omega),decide_eq_false_iff_not] at h
 obtain rfl:k=cnt:=by omega
 rw [at_none hj]
noncomputable abbrev C_m:Table:=⟨(tabM noData [] []).fn,(tabM noData [] []).glob,(tabM noData [] []).look,(tabM noData [] []).inl,.sym,0,0,[],(tabM noData [] []).mkr,[]⟩
set_option maxRecDepth 100000 in
set_option maxHeartbeats 16000000 in
theorem At_walk (T T2:TypeId) (cnt cnt':Nat) (hc:cnt≤cnt') (r:RT) (R:RgOK r cnt) (a n:BitVec 64) :
 FI Tryd.prog C_m Tryd.f82 2 [.one (.ptr 0 0),.one (.b64 false a),.one (.b64 true n)] [(0,.ro T [.rsl 1 cnt]),(1,.ro T2 [.seg 3 cnt' (rgF r)])] (fun u g=>u= .one (.b64 true (atV r cnt a n))∧∀ i d,Ep.look [(0,.ro T [.rsl 1 cnt]),(1,.ro T2 [.seg 3 cnt' (rgF r)])] i=some d→Ep.look g i=lookU [] i (some d)):=by
 repeat' (first
  | (with_reducible apply Given.mk;intro h;(try exact absurd h (by decide)))
  | ((conv=>whnf);first
    | with_reducible apply Both.mk
    | (refine LoopP.mk (Nat) (fun k=>k≤cnt∧∀ j,j<k→hitB (r j) a n=false) ((fun k=>mkS (Tryd.f82).ntmps [(0,.one (.ptr 0 0)),(1,.one (.b64 false a)),(2,.one (.b64 true n)),(7,iN k)] [(0,.ro T [.rsl 1 cnt]),(1,.ro T2 [.seg 3 cnt' (rgF r)])])) (fun k=>cnt - k) ⟨0,⟨Nat.zero_le _,fun j h=>absurd h (Nat.not_lt_zero _)⟩,⟨?_,?_,?_,?_,?_⟩⟩ ?_;(iterate 2 (focus ((repeat' ((conv=>whnf);first | exact trivial | refine Both.mk (by first | with_reducible rfl | exact iN_succ _ | rfl) ?_));done)));(iterate 3 (focus exact rfl));(rintro k qa))
    | fail))
 all_goals first
  | ((with_reducible apply Ob.mk);exact lt_of_small R)
  | ((with_reducible apply Ob.mk);exact ix_k R qa.1 (by with_reducible assumption))
  | ((with_reducible apply Ob.mk);exact ix_k2 R hc qa.1 (by with_reducible assumption))
  | ((with_reducible apply Ob.mk);exact R.size _ (ix_k R qa.1 (by with_reducible assumption)).2)
  | ((conv=>whnf);refine ⟨k + 1,nh_1 R qa (by with_reducible assumption) (by with_reducible assumption),(by have:=(k_lt R qa.1 (by with_reducible assumption)).1;show cnt - (k + 1)<cnt - k;omega),⟨?_,?_,?_,?_,?_⟩⟩;(iterate 2 (focus ((repeat' ((conv=>whnf);first | exact trivial | refine Both.mk (by first | with_reducible rfl | exact iN_succ _ | rfl) ?_));done)));(iterate 3 (focus exact rfl)))
  | ((conv=>whnf);refine ⟨k + 1,nh_2 R qa (by with_reducible assumption) (by with_reducible assumption),(by have:=(k_lt R qa.1 (by with_reducible assumption)).1;show cnt - (k + 1)<cnt - k;omega),⟨?_,?_,?_,?_,?_⟩⟩;(iterate 2 (focus ((repeat' ((conv=>whnf);first | exact trivial | refine Both.mk (by first | with_reducible rfl | exact iN_succ _ | rfl) ?_));done)));(iterate 3 (focus exact rfl)))
  | ((conv=>whnf);refine ⟨k + 1,nh_3 R qa (by with_reducible assumption) (by with_reducible assumption),(by have:=(k_lt R qa.1 (by with_reducible assumption)).1;show cnt - (k + 1)<cnt - k;omega),⟨?_,?_,?_,?_,?_⟩⟩;(iterate 2 (focus ((repeat' ((conv=>whnf);first | exact trivial | refine Both.mk (by first | with_reducible rfl | exact iN_succ _ | rfl) ?_));done)));(iterate 3 (focus exact rfl)))
  | ((conv=>whnf);exact ⟨at_hit R qa.1 qa.2 (by with_reducible assumption) (by with_reducible assumption) (by with_reducible assumption) (by with_reducible assumption),fun i d h=>h⟩)
  | ((conv=>whnf);exact ⟨at_end R qa.1 qa.2 (by with_reducible assumption),fun i d h=>h⟩)
  | ((conv=>whnf);skip)
theorem C_m_ok:CSound Tryd.prog anyWorld C_m:=(CSound.startM CSound.start).inl' (InlOK.none _ _) .sym 0 0 [] []
def sp_at:SpW:=fun args ch=>match args,ch with
 | [.one (.ptr 0 0),.one (.b64 false a),.one (.b64 true n)],[(0,.ro T [.rsl 1 cnt]),(1,.ro T2 [.seg 3 cnt' f])]=>some (.p (cnt≤cnt'∧f=rgF (rgOf f)∧RgOK (rgOf f) cnt),.one (.b64 true (atV (rgOf f) cnt a n)),[])
 | _,_=>none
set_option maxRecDepth 100000 in
theorem w_at:EntryW Tryd.prog anyWorld 82 sp_at:=by
 refine .of_FI C_m_ok (by kernel_rfl) Tryd.func82 (by kernel_rfl) (by kernel_rfl) (fun args ch c v ups h hc=> ?_)
 unfold sp_at at h
 split at h
 · rename_i a n T cnt T2 cnt' f
   cases h
   obtain ⟨h1,h2,h3⟩:=hc
   generalize rgOf f=r at h2 h3
   subst h2
   exact At_walk T T2 cnt cnt' h1 r h3 a n
 · cases h
theorem e_at:EntryM Tryd.prog anyWorld 82 (spD sp_at):= .of_D w_at
theorem num_st {s:ByteArray} (hs:s.size≤8):AV.one (.b64 true ((if (8#64).slt (BitVec.ofNat 64 s.size)=true then 8#64 else BitVec.ofNat 64 s.size) - 1#64))=AV.one (.b64 true (BitVec.ofNat 64 s.size - 1#64)):=by
 rw [slt_nat (a:=8) (by omega) (by omega),decide_eq_false (by omega)];rfl
theorem pr1 {k:Nat} (h:k≤8):BitVec.ofNat 64 (k + 1) - 1#64=BitVec.ofNat 64 k:=by
 rw [show BitVec.ofNat 64 (k + 1)=BitVec.ofNat 64 k + 1#64 from BitVec.ofNat_add _ _,BitVec.add_sub_cancel]
theorem num_ix {s:ByteArray} {k:Nat} (hs:s.size≤8) (h:k + 1≤s.size):0≤(BitVec.ofNat 64 (k + 1) - 1#64).toInt∧(BitVec.ofNat 64 (k + 1) - 1#64).toNat<s.size:=by
 rw [pr1 (by omega)]
 exact ix_ofNat (by omega) (by omega)
theorem num_le {k:Nat} (h:k≤8):(0#64).sle (BitVec.ofNat 64 (k + 1) - 1#64)=true:=by
 rw [pr1 h]
 exact (sle_nat (a:=0) (by omega) (by omega)).trans (decide_eq_true (by omega))
theorem num_v {s:ByteArray} {k:Nat} {v:BitVec 64} (hk:k≤8) (h:numR s (k + 1) v=numV s):numR s k (v*256#64 + BitVec.setWidth 64 (byteAt s (BitVec.ofNat 64 (k + 1) - 1#64).toNat))=numV s:=by
 rw [pr1 hk,nat_ofNat (by omega)]
 exact h
theorem num_nx {k:Nat} (h:k≤8):AV.one (.b64 true (BitVec.ofNat 64 (k + 1) - 1#64 - 1#64))=AV.one (.b64 true (BitVec.ofNat 64 k - 1#64)):=by rw [pr1 h]
set_option maxRecDepth 100000 in
set_option maxHeartbeats 16000000 in
theorem Num_walk (s:ByteArray) (hs:s.size≤8):F Tryd.prog C_m Tryd.f103 [.one (.str s)] (fun u=>u= .one (.b64 false (numV s))):=by
 repeat' (first
  | (with_reducible apply Given.mk;intro h;(try dsimp only at h);(try ((have _q:=z0);exact absurd h (by decide)));(try ((have _q:=sN);exact absurd (sN.symm.trans h) (by decide))))
  | ((conv=>whnf);first
    | with_reducible apply Both.mk
    | ((fail_if_success (have _q:=qk));refine LoopP.mk (Nat×BitVec 64) (fun y=>y.1≤s.size∧numR s y.1 y.2=numV s) ((fun y=>mkS (Tryd.f103).ntmps [(0,.one (.str s)),(3,.one (.b64 false y.2)),(4,.one (.b64 true (BitVec.ofNat 64 y.1 - 1#64)))] [])) (fun y=>y.1) ⟨(s.size,0#64),⟨Nat.le_refl _,rfl⟩,⟨?_,?_,?_,?_,?_⟩⟩ ?_;(iterate 2 (focus ((repeat' ((conv=>whnf);first | exact trivial | refine Both.mk (by first | with_reducible rfl | exact iN_succ _ | exact num_st hs | rfl) ?_));done)));(iterate 3 (focus exact rfl));(rintro ⟨k,v⟩ ⟨qk,qv⟩;rcases k with _ | k<;>dsimp only at qk qv;(have z0:=trivial);rotate_left 1;(have sN:=num_le (k:=k) (by omega));rotate_left 1))
    | fail))
 all_goals first
  | ((have _q:=sN);(with_reducible apply Ob.mk);first | exact num_ix hs qk | exact (num_ix hs qk).2)
  | ((with_reducible apply Ob.mk);omega)
  | ((conv=>whnf);refine ⟨(k,v*256#64 + BitVec.setWidth 64 (byteAt s (BitVec.ofNat 64 (k + 1) - 1#64).toNat)),⟨Nat.le_of_succ_le qk,num_v (by omega) qv⟩,Nat.lt_succ_self k,⟨?_,?_,?_,?_,?_⟩⟩;(iterate 2 (focus ((repeat' ((conv=>whnf);first | exact trivial | refine Both.mk (by first | with_reducible rfl | exact iN_succ _ | exact num_nx (by omega) | rfl) ?_));done)));(iterate 3 (focus exact rfl)))
  | ((conv=>whnf);exact ⟨congrArg (fun x=>AV.one (.b64 false x)) qv⟩)
  | ((conv=>whnf);skip)
def sp_num:Sp
 | [.one (.str s)]=>some (.p (s.size≤8),.one (.b64 false (numV s)))
 | _=>none
set_option maxRecDepth 100000 in
theorem e_Num:EntryOK Tryd.prog anyWorld 103 sp_num:=by
 refine .of_F C_m_ok (by kernel_rfl) Tryd.func103 (by kernel_rfl) (by kernel_rfl) (fun args c v h hc=> ?_)
 unfold sp_num at h
 split at h
 · rename_i s
   cases h
   exact ⟨rfl,rfl,Num_walk s hc⟩
 · cases h
theorem at_spec {r:RT} {cnt:Nat} {a n:BitVec 64} (R:RgOK r cnt) (h:(atV r cnt a n).slt 0#64=false):(atV r cnt a n).toNat<cnt∧0≤(atV r cnt a n).toInt∧hitB (r (atV r cnt a n).toNat) a n=true:=by
 have hs:=R.small
 unfold atV at h ⊢
 cases e:fstN (fun k=>hitB (r k) a n) cnt with
 | none=>rw [e] at h;exact absurd h (by decide)
 | some k=>
   have hk:=fst_spec e
   show (bv k).toNat<cnt∧0≤(bv k).toInt∧hitB (r (bv k).toNat) a n=true
   rw [nat_ofNat (by omega),toInt_ofNat (by omega)]
   exact ⟨hk.1,by omega,hk.2⟩
theorem from_spec {g:RG} {a n:BitVec 64} (hs:g.d.size<9223372036854775808) (h:hitB g a n=true):(a - g.b).toNat≤g.d.size∧n.toNat≤g.d.size∧(a - g.b + n).toNat=(a - g.b).toNat + n.toNat∧(a - g.b).toNat + n.toNat≤g.d.size:=by
 unfold hitB at h
 simp only [Bool.and_eq_true,BitVec.ule,decide_eq_true_eq] at h
 obtain ⟨-,h1,h2⟩:=h
 rw [nat_ofNat hs] at h1
 rw [BitVec.toNat_sub,nat_ofNat hs] at h2
 have h3:=(a - g.b).isLt
 have h4:(18446744073709551616 - (a - g.b).toNat + g.d.size) % 18446744073709551616=g.d.size - (a - g.b).toNat:=by omega
 have h5:n.toNat≤g.d.size - (a - g.b).toNat:=by rw [← h4];exact h2
 refine ⟨h1,by omega,?_,by omega⟩
 rw [BitVec.toNat_add]
 omega
theorem from_int {g:RG} {a n:BitVec 64} (hs:g.d.size<9223372036854775808) (h:hitB g a n=true):(0≤(a - g.b).toInt∧0≤(a - g.b + n).toInt)∧(a - g.b).toNat≤(a - g.b + n).toNat∧(a - g.b + n).toNat≤g.d.size:=by
 obtain ⟨h1,h2,h3,h4⟩:=from_spec hs h
 have e1:(a - g.b).toInt=((a - g.b).toNat:Int):=BitVec.toInt_eq_toNat_of_lt (by omega)
 have e2:(a - g.b + n).toInt=((a - g.b + n).toNat:Int):=BitVec.toInt_eq_toNat_of_lt (by omega)
 rw [e1,e2]
 omega
theorem tx_1 {r:RT} {cnt:Nat} {a n:BitVec 64} (h:n.slt 0#64=true):textV r cnt a n=(⟨#[]⟩,2#64):=by unfold textV;rw [h];rfl
theorem tx_2 {r:RT} {cnt:Nat} {a n:BitVec 64} (h:n.slt 0#64=false) (h2:(n==0#64)=true):textV r cnt a n=(⟨#[]⟩,0#64):=by unfold textV;rw [h,h2];rfl
theorem tx_3 {r:RT} {cnt:Nat} {a n:BitVec 64} (h:n.slt 0#64=false) (h2:(n==0#64)=false) (h3:(atV r cnt a n).slt 0#64=true):textV r cnt a n=(⟨#[]⟩,70#64):=by unfold textV;rw [h,h2,h3];rfl
theorem tx_4 {r:RT} {cnt:Nat} {a n:BitVec 64} (h:n.slt 0#64=false) (h2:(n==0#64)=false) (h3:(atV r cnt a n).slt 0#64=false):textV r cnt a n=(exB (r (atV r cnt a n).toNat).d (a - (r (atV r cnt a n).toNat).b).toNat (a - (r (atV r cnt a n).toNat).b + n).toNat,0#64):=by unfold textV;rw [h,h2,h3];rfl
theorem keep2 {h:List (Nat×Blk)}:∀ i d,Ep.look h i=some d→Ep.look h i=lookU [] i (some d):=fun _ _ h=>h
noncomputable abbrev C_m1:Table:=⟨(tabM noData [(103,sp_num)] [(82,spD sp_at)]).fn,noData.glob,noData.look,wInl [] (fun _ _ _ _ _=>Stuck "call"),.sym,0,0,[],fun _ _ _=>none,[]⟩
theorem C_m1_ok:CSound Tryd.prog anyWorld C_m1:=((CSound.startM (CSound.start.cons e_Num)).consM e_at).inl' (wInl_sound .nil (InlOK.none _ _)) .sym 0 0 [] []
set_option maxRecDepth 100000 in
set_option maxHeartbeats 16000000 in
theorem Text_walk (T T2:TypeId) (cnt cnt':Nat) (hc:cnt≤cnt') (r:RT) (R:RgOK r cnt) (a n:BitVec 64) :
 FI Tryd.prog C_m1 Tryd.f102 2 [.one (.ptr 0 0),.one (.b64 false a),.one (.b64 true n)] [(0,.ro T [.rsl 1 cnt]),(1,.ro T2 [.seg 3 cnt' (rgF r)])] (fun u g=>u= .tup [(false,[.str (textV r cnt a n).1]),(false,[.b64 true (textV r cnt a n).2])]∧∀ i d,Ep.look [(0,.ro T [.rsl 1 cnt]),(1,.ro T2 [.seg 3 cnt' (rgF r)])] i=some d→Ep.look g i=lookU [] i (some d)):=by
 repeat' (first
  | (with_reducible apply Given.mk;intro h;(try simp only [rgOf_rgF] at h);(try exact absurd h (by decide)))
  | ((conv=>whnf);first
    | with_reducible apply Both.mk
    | fail))
 all_goals first
  | ((with_reducible apply Ob.mk);exact ⟨hc,rfl,R⟩)
  | ((with_reducible apply Ob.mk);exact ⟨(at_spec R (by with_reducible assumption)).2.1,(at_spec R (by with_reducible assumption)).1⟩)
  | ((with_reducible apply Ob.mk);exact Nat.lt_of_lt_of_le (at_spec R (by with_reducible assumption)).1 hc)
  | ((with_reducible apply Ob.mk);exact from_int (R.size _ (at_spec R (by with_reducible assumption)).1) (at_spec R (by with_reducible assumption)).2.2)
  | ((conv=>whnf);refine ⟨?_,keep2⟩;first
    | (rw [tx_1 (by with_reducible assumption)];done)
    | (rw [tx_2 (by with_reducible assumption) (by with_reducible assumption)];done)
    | (rw [tx_3 (by with_reducible assumption) (by with_reducible assumption) (by with_reducible assumption)];done)
    | (simp only [rgOf_rgF];rw [tx_4 (by with_reducible assumption) (by with_reducible assumption) (by with_reducible assumption)];done))
  | ((conv=>whnf);skip)
noncomputable def sp_text:SpW:=fun args ch=>match args,ch with
 | [.one (.ptr 0 0),.one (.b64 false a),.one (.b64 true n)],[(0,.ro T [.rsl 1 cnt]),(1,.ro T2 [.seg 3 cnt' f])]=>some (.p (cnt≤cnt'∧f=rgF (rgOf f)∧RgOK (rgOf f) cnt),.tup [(false,[.str (textV (rgOf f) cnt a n).1]),(false,[.b64 true (textV (rgOf f) cnt a n).2])],[])
 | _,_=>none
set_option maxRecDepth 100000 in
theorem w_text:EntryW Tryd.prog anyWorld 102 sp_text:=by
 refine .of_FI C_m1_ok (by kernel_rfl) Tryd.func102 (by kernel_rfl) (by kernel_rfl) (fun args ch c v ups h hc=> ?_)
 unfold sp_text at h
 split at h
 · rename_i a n T cnt T2 cnt' f
   cases h
   obtain ⟨h1,h2,h3⟩:=hc
   generalize rgOf f=r at *
   subst h2
   exact Text_walk T T2 cnt cnt' h1 r h3 a n
 · cases h
theorem e_text:EntryM Tryd.prog anyWorld 102 (spD sp_text):= .of_D w_text
noncomputable abbrev C_m2:Table:=⟨(tabM noData [(103,sp_num)] [(102,spD sp_text)]).fn,noData.glob,noData.look,wInl [] (fun _ _ _ _ _=>Stuck "call"),.sym,0,0,[],fun _ _ _=>none,[]⟩
theorem C_m2_ok:CSound Tryd.prog anyWorld C_m2:=((CSound.startM (CSound.start.cons e_Num)).consM e_text).inl' (wInl_sound .nil (InlOK.none _ _)) .sym 0 0 [] []
theorem exB_le (s:ByteArray) (l h:Nat):(exB s l h).size≤h - l:=by rw [← exB_eq,ByteArray.size_extract];omega
theorem sz_8 {n:BitVec 64} (h:szB n=true):n.toNat≤8:=by
 unfold szB at h
 simp only [Bool.or_eq_true,beq_iff_eq] at h
 rcases h with rfl | rfl | rfl | rfl<;>decide
theorem sz_no {n:BitVec 64} (h1:(n != 1#64)=true) (h2:(n != 2#64)=true) (h3:(n != 4#64)=true) (h4:(n != 8#64)=true):szB n=false:=by
 unfold szB
 simp only [bne,Bool.not_eq_true'] at h1 h2 h3 h4
 rw [h1,h2,h3,h4];rfl
theorem sz_1 {n:BitVec 64} (h:(n != 1#64)=false):szB n=true:=by
 obtain rfl:n=1#64:=by simpa using h
 rfl
theorem sz_2 {n:BitVec 64} (h:(n != 2#64)=false):szB n=true:=by
 obtain rfl:n=2#64:=by simpa using h
 rfl
theorem sz_4 {n:BitVec 64} (h:(n != 4#64)=false):szB n=true:=by
 obtain rfl:n=4#64:=by simpa using h
 rfl
theorem sz_e {n:BitVec 64} (h:(n != 8#64)=false):szB n=true:=by
 obtain rfl:n=8#64:=by simpa using h
 rfl
theorem text_le {r:RT} {cnt:Nat} {a n:BitVec 64} (R:RgOK r cnt) (h:szB n=true):(textV r cnt a n).1.size≤8:=by
 unfold textV
 split
 · exact Nat.zero_le _
 · split
   · exact Nat.zero_le _
   · split
     · exact Nat.zero_le _
     · rename_i h3
       obtain ⟨q1,q2,q3⟩:=at_spec R (by simpa using h3)
       obtain ⟨-,-,q4,q5⟩:=from_spec (R.size _ q1) q3
       have:=sz_8 h
       show (exB _ _ _).size≤8
       rw [q4]
       exact Nat.le_trans (exB_le _ _ _) (by omega)
theorem read_no {r:RT} {cnt:Nat} {a n:BitVec 64} (h:szB n=false):readV r cnt a n=(0#64,2#64):=by unfold readV;rw [h];rfl
theorem read_yes {r:RT} {cnt:Nat} {a n:BitVec 64} (h:szB n=true):readV r cnt a n=(numV (textV r cnt a n).1,(textV r cnt a n).2):=by unfold readV;rw [h];rfl
set_option maxRecDepth 100000 in
set_option maxHeartbeats 16000000 in
theorem Read_walk (T T2:TypeId) (cnt cnt':Nat) (hc:cnt≤cnt') (r:RT) (R:RgOK r cnt) (a n:BitVec 64) :
 FI Tryd.prog C_m2 Tryd.f88 2 [.one (.ptr 0 0),.one (.b64 false a),.one (.b64 true n)] [(0,.ro T [.rsl 1 cnt]),(1,.ro T2 [.seg 3 cnt' (rgF r)])] (fun u g=>u= .tup [(false,[.b64 false (readV r cnt a n).1]),(false,[.b64 true (readV r cnt a n).2])]∧∀ i d,Ep.look [(0,.ro T [.rsl 1 cnt]),(1,.ro T2 [.seg 3 cnt' (rgF r)])] i=some d→Ep.look g i=lookU [] i (some d)):=by
 repeat' (first
  | (with_reducible apply Given.mk;intro h;(try simp only [rgOf_rgF] at h);(try exact absurd h (by decide)))
  | ((conv=>whnf);first
    | with_reducible apply Both.mk
    | fail))
 all_goals first
  | ((with_reducible apply Ob.mk);exact ⟨hc,rfl,R⟩)
  | ((with_reducible apply Ob.mk);exact text_le R (by first | exact sz_1 (by with_reducible assumption) | exact sz_2 (by with_reducible assumption) | exact sz_4 (by with_reducible assumption) | exact sz_e (by with_reducible assumption)))
  | ((conv=>whnf);refine ⟨?_,keep2⟩;first
    | (rw [read_no (sz_no (by with_reducible assumption) (by with_reducible assumption) (by with_reducible assumption) (by with_reducible assumption))];done)
    | (simp only [rgOf_rgF];rw [read_yes (by first | exact sz_1 (by with_reducible assumption) | exact sz_2 (by with_reducible assumption) | exact sz_4 (by with_reducible assumption) | exact sz_e (by with_reducible assumption))];done))
  | ((conv=>whnf);skip)
noncomputable def sp_read:SpW:=fun args ch=>match args,ch with
 | [.one (.ptr 0 0),.one (.b64 false a),.one (.b64 true n)],[(0,.ro T [.rsl 1 cnt]),(1,.ro T2 [.seg 3 cnt' f])]=>some (.p (cnt≤cnt'∧f=rgF (rgOf f)∧RgOK (rgOf f) cnt),.tup [(false,[.b64 false (readV (rgOf f) cnt a n).1]),(false,[.b64 true (readV (rgOf f) cnt a n).2])],[])
 | _,_=>none
set_option maxRecDepth 100000 in
theorem w_read:EntryW Tryd.prog anyWorld 88 sp_read:=by
 refine .of_FI C_m2_ok (by kernel_rfl) Tryd.func88 (by kernel_rfl) (by kernel_rfl) (fun args ch c v ups h hc=> ?_)
 unfold sp_read at h
 split at h
 · rename_i a n T cnt T2 cnt' f
   cases h
   obtain ⟨h1,h2,h3⟩:=hc
   generalize rgOf f=r at *
   subst h2
   exact Read_walk T T2 cnt cnt' h1 r h3 a n
 · cases h
theorem e_read:EntryM Tryd.prog anyWorld 88 (spD sp_read):= .of_D w_read
def putR (r:RT) (cnt:Nat) (a:BitVec 64) (s:ByteArray):RT:=if (atV r cnt a (BitVec.ofNat 64 s.size)).slt 0#64 then r else
 fun j=>if j=(atV r cnt a (BitVec.ofNat 64 s.size)).toNat then { r j with d:=catB (catB (exB (r j).d 0 (a - (r j).b).toNat) s) (exB (r j).d (a - (r j).b + BitVec.ofNat 64 s.size).toNat (r j).d.size) } else r j
theorem catB_size (a b:ByteArray):(catB a b).size=a.size + b.size:=by
 show (catB a b).data.size=a.data.size + b.data.size
 rw [← catB_eq]
 simp
theorem ge_1 {v:BitVec 64} (h:(0#64).sle v=true):v.slt 0#64=false:=by
 rw [BitVec.sle_eq_decide,decide_eq_true_eq] at h
 rw [BitVec.slt_eq_decide,decide_eq_false_iff_not]
 omega
theorem ge_0 {v:BitVec 64} (h:(0#64).sle v=false):v.slt 0#64=true:=by
 rw [BitVec.sle_eq_decide,decide_eq_false_iff_not] at h
 rw [BitVec.slt_eq_decide,decide_eq_true_eq]
 omega
theorem put_1 {g:RG} {a n:BitVec 64} (hs:g.d.size<9223372036854775808) (h:hitB g a n=true):0≤(a - g.b).toInt∧0≤(a - g.b).toNat∧(a - g.b).toNat≤g.d.size:=⟨(from_int hs h).1.1,Nat.zero_le _,(from_spec hs h).1⟩
theorem put_2 {g:RG} {a:BitVec 64} {s:ByteArray} (hl:s.size<9223372036854775808) (hs:g.d.size<9223372036854775808) (h:hitB g a (BitVec.ofNat 64 s.size)=true):(exB g.d 0 (a - g.b).toNat).size + s.size<9223372036854775808:=by
 obtain ⟨h1,h2,h3,h4⟩:=from_spec hs h
 rw [nat_ofNat hl] at h4
 have:=exB_le g.d 0 (a - g.b).toNat
 omega
theorem put_3 {g:RG} {a n:BitVec 64} (hs:g.d.size<9223372036854775808) (h:hitB g a n=true):0≤(a - g.b + n).toInt∧(a - g.b + n).toNat≤g.d.size∧g.d.size≤g.d.size:=⟨(from_int hs h).1.2,(from_int hs h).2.2,Nat.le_refl _⟩
theorem put_4 {g:RG} {a:BitVec 64} {s:ByteArray} (hl:s.size<9223372036854775808) (hs:g.d.size<9223372036854775808) (h:hitB g a (BitVec.ofNat 64 s.size)=true):(catB (exB g.d 0 (a - g.b).toNat) s).size + (exB g.d (a - g.b + BitVec.ofNat 64 s.size).toNat g.d.size).size<9223372036854775808:=by
 obtain ⟨h1,h2,h3,h4⟩:=from_spec hs h
 rw [nat_ofNat hl] at h3 h4
 have:=exB_le g.d 0 (a - g.b).toNat
 have:=exB_le g.d (a - g.b + BitVec.ofNat 64 s.size).toNat g.d.size
 rw [catB_size]
 omega
theorem ups_1 {b0 b1 b2:Blk}:∀ i d,Ep.look [(0,b0),(1,b1)] i=some d→Ep.look [(0,b0),(1,b2)] i=lookU [(1,b2)] i (some d):=fun i d h=>by
 rcases i with _ | _ | i
 · exact h
 · rfl
 · have h':(none:Option Blk)=some d:=h
   cases h'
theorem ups_0 {b0 b1:Blk} {p:RT} {T:TypeId} {c:Nat} {r:RT} (e:p=r) (e1:b1= .row T 3 c (rgF r)):∀ i d,Ep.look [(0,b0),(1,b1)] i=some d→Ep.look [(0,b0),(1,b1)] i=lookU [(1,.row T 3 c (rgF p))] i (some d):=by
 rw [e,← e1]
 exact ups_1
theorem put_no {r:RT} {cnt:Nat} {a:BitVec 64} {s:ByteArray} (h:(0#64).sle (atV r cnt a (BitVec.ofNat 64 s.size))=false):putR r cnt a s=r:=by unfold putR;rw [ge_0 h];rfl
theorem put_yes {r:RT} {cnt:Nat} {a:BitVec 64} {s:ByteArray} (h:(0#64).sle (atV r cnt a (BitVec.ofNat 64 s.size))=true):updF (rgF r) (atV r cnt a (BitVec.ofNat 64 s.size)).toNat 1 [.str (catB (catB (exB (r (atV r cnt a (BitVec.ofNat 64 s.size)).toNat).d 0 (a - (r (atV r cnt a (BitVec.ofNat 64 s.size)).toNat).b).toNat) s) (exB (r (atV r cnt a (BitVec.ofNat 64 s.size)).toNat).d (a - (r (atV r cnt a (BitVec.ofNat 64 s.size)).toNat).b + BitVec.ofNat 64 s.size).toNat (r (atV r cnt a (BitVec.ofNat 64 s.size)).toNat).d.size))]=rgF (putR r cnt a s):=by
 unfold putR
 rw [ge_1 h]
 generalize (atV r cnt a (BitVec.ofNat 64 s.size)).toNat=k
 funext j
 by_cases e:j=k
 · subst e;simp [updF,mergeP,pickP,rgF]
 · simp [updF,mergeP,pickP,rgF,e]
theorem putR_ok {r:RT} {cnt:Nat} {a:BitVec 64} {s:ByteArray} (hl:s.size<9223372036854775808) (R:RgOK r cnt):RgOK (putR r cnt a s) cnt:=by
 cases h:(0#64).sle (atV r cnt a (BitVec.ofNat 64 s.size)) with
 | false=>rw [put_no h];exact R
 | true=>
   refine ⟨R.small,fun k hk=> ?_⟩
   unfold putR
   rw [ge_1 h,if_neg (by decide)]
   show (if k=_ then _ else _:RG).d.size< _
   split
   · rename_i e
     obtain ⟨q1,-,q3⟩:=at_spec R (ge_1 h)
     rw [← e] at q3
     have:=put_4 hl (R.size k hk) q3
     show (catB (catB _ _) _).size< _
     rw [catB_size]
     exact this
   · exact R.size k hk
set_option maxRecDepth 100000 in
set_option maxHeartbeats 16000000 in
theorem Put_walk (T T2:TypeId) (cnt cnt':Nat) (hc:cnt≤cnt') (r:RT) (R:RgOK r cnt) (a:BitVec 64) (s:ByteArray) (hs:s.size<9223372036854775808) :
 FI Tryd.prog C_m1 Tryd.f60 2 [.one (.ptr 0 0),.one (.b64 false a),.one (.str s)] [(0,.cells T [.rsl 1 cnt]),(1,.row T2 3 cnt' (rgF r))] (fun u g=>u= .tup []∧∀ i d,Ep.look [(0,.cells T [.rsl 1 cnt]),(1,.row T2 3 cnt' (rgF r))] i=some d→Ep.look g i=lookU [(1,.row T2 3 cnt' (rgF (putR r cnt a s)))] i (some d)):=by
 repeat' (first
  | (with_reducible apply Given.mk;intro h;(try simp only [rgOf_rgF] at h);(try exact absurd h (by decide)))
  | ((conv=>whnf);first
    | with_reducible apply Both.mk
    | fail))
 all_goals first
  | ((with_reducible apply Ob.mk);(show Region.lexB _ _=true);kernel_rfl)
  | ((with_reducible apply Ob.mk);with_reducible exact hs)
  | ((with_reducible apply Ob.mk);(show cnt≤cnt'∧_);exact ⟨hc,rfl,R⟩)
  | ((with_reducible apply Ob.mk);(try simp only [rgOf_rgF]);have hA:=at_spec R (ge_1 (by with_reducible assumption));first
    | with_reducible exact ⟨hA.2.1,hA.1⟩
    | with_reducible exact Nat.lt_of_lt_of_le hA.1 hc
    | with_reducible exact put_1 (R.size _ hA.1) hA.2.2
    | with_reducible exact put_2 hs (R.size _ hA.1) hA.2.2
    | with_reducible exact put_3 (R.size _ hA.1) hA.2.2
    | with_reducible exact put_4 hs (R.size _ hA.1) hA.2.2)
  | ((conv=>whnf);refine ⟨rfl,?_⟩;exact ups_0 (put_no (by with_reducible assumption)) rfl)
  | ((conv=>whnf);refine ⟨rfl,?_⟩;simp only [rgOf_rgF];rw [put_yes (by with_reducible assumption)];exact ups_1)
  | ((conv=>whnf);skip)
noncomputable def sp_put:SpW:=fun args ch=>match args,ch with
 | [.one (.ptr 0 0),.one (.b64 false a),.one (.str s)],[(0,.cells T [.rsl 1 cnt]),(1,.row T2 3 cnt' f)]=>some (.p (cnt≤cnt'∧f=rgF (rgOf f)∧RgOK (rgOf f) cnt∧s.size<9223372036854775808),.tup [],[(1,.row T2 3 cnt' (rgF (putR (rgOf f) cnt a s)))])
 | _,_=>none
set_option maxRecDepth 100000 in
theorem e_put:EntryW Tryd.prog anyWorld 60 sp_put:=by
 refine .of_FI C_m1_ok (by kernel_rfl) Tryd.func60 (by kernel_rfl) (by kernel_rfl) (fun args ch c v ups h hc=> ?_)
 unfold sp_put at h
 split at h
 · rename_i a s T cnt T2 cnt' f
   cases h
   obtain ⟨h1,h2,h3,h4⟩:=hc
   generalize rgOf f=r at *
   subst h2
   exact Put_walk T T2 cnt cnt' h1 r h3 a s h4
 · cases h
theorem ble_lt {a b:Nat} (h:Nat.ble (a + 1) b=true):a<b:=Nat.le_of_ble_eq_true h
set_option maxRecDepth 100000 in
set_option maxHeartbeats 16000000 in
theorem Bytes_ex (v n:BitVec 64) (hn:szB n=true):∃ s:ByteArray,F Tryd.prog C_m Tryd.f30 [.one (.b64 false v),.one (.b64 true n)] (fun u=>u= .one (.str s))∧s.size=n.toNat:=by
 have hn':n=1#64∨n=2#64∨n=4#64∨n=8#64:=by unfold szB at hn;simpa using hn
 rcases hn' with rfl | rfl | rfl | rfl<;>apply Exists.intro<;>(try apply And.intro)
 all_goals (repeat' (first
  | (with_reducible apply Given.mk;intro h;(try exact absurd h (by decide)))
  | ((conv=>whnf);first
    | with_reducible apply Both.mk
    | refine LoopP.times 9 ?_)))
 all_goals first
  | (with_reducible apply Ob.mk;refine ble_lt ?_;kernel_rfl)
  | (with_reducible apply Ob.mk;decide)
  | ((conv=>whnf);exact ⟨rfl⟩)
  | (refine Nat.eq_of_beq_eq_true ?_;kernel_rfl)
noncomputable def bytV (v n:BitVec 64):ByteArray:=if h:szB n=true then Classical.choose (Bytes_ex v n h) else ⟨#[]⟩
noncomputable def sp_bytes:Sp
 | [.one (.b64 false v),.one (.b64 true n)]=>some (.p (szB n=true),.one (.str (bytV v n)))
 | _=>none
theorem byt_sz (v:BitVec 64) {n:BitVec 64} (h:szB n=true):(bytV v n).size=n.toNat:=by
 unfold bytV
 rw [dif_pos h];exact (Classical.choose_spec (Bytes_ex v n h)).2
theorem byt_le (v n:BitVec 64):(bytV v n).size≤8:=by
 cases h:szB n with
 | true=>rw [byt_sz v h];exact sz_8 h
 | false=>unfold bytV;rw [dif_neg (by rw [h];exact Bool.false_ne_true)];exact Nat.zero_le _
set_option maxRecDepth 100000 in
theorem e_Bytes:EntryOK Tryd.prog anyWorld 30 sp_bytes:=by
 refine .of_F C_m_ok (by kernel_rfl) Tryd.func30 (by kernel_rfl) (by kernel_rfl) (fun args c v h hc=> ?_)
 unfold sp_bytes at h
 split at h
 · rename_i v n
   cases h
   refine ⟨rfl,rfl,?_⟩
   have hc:szB n=true:=hc
   have:=(Classical.choose_spec (Bytes_ex v n hc)).1
   unfold bytV
   rw [dif_pos hc]
   exact this
 · cases h
noncomputable abbrev C_m3:Table:=⟨(tabM noData [(30,sp_bytes),(103,sp_num)] [(88,spD sp_read),(82,spD sp_at)]).fn,noData.glob,noData.look,wInl [(60,sp_put)] (fun _ _ _ _ _=>Stuck "call"),.sym,0,0,[60],fun _ _ _=>none,[]⟩
theorem C_m3_ok:CSound Tryd.prog anyWorld C_m3:=(((CSound.startM ((CSound.start.cons e_Num).cons e_Bytes)).consM e_at).consM e_read).inl' (wInl_sound (.cons e_put .nil) (InlOK.none _ _)) .sym 0 0 [60] []
noncomputable def writeV (r:RT) (cnt:Nat) (a n v:BitVec 64):BitVec 64×RT:=if (readV r cnt a n).2 != 0#64 then ((readV r cnt a n).2,r) else if (r (atV r cnt a n).toNat).w then (0#64,putR r cnt a (bytV v n)) else (71#64,r)
theorem read_at {r:RT} {cnt:Nat} {a n:BitVec 64} (h:((readV r cnt a n).2 != 0#64)=false):szB n=true∧(atV r cnt a n).slt 0#64=false:=by
 cases hz:szB n with
 | false=>rw [read_no hz] at h;exact absurd h (by decide)
 | true=>
   refine ⟨rfl,?_⟩
   rw [read_yes hz] at h
   cases hs:(atV r cnt a n).slt 0#64 with
   | false=>rfl
   | true=>
     have h1:n.slt 0#64=false:=by unfold szB at hz;simp only [Bool.or_eq_true,beq_iff_eq] at hz;rcases hz with rfl | rfl | rfl | rfl<;>decide
     have h2:(n==0#64)=false:=by unfold szB at hz;simp only [Bool.or_eq_true,beq_iff_eq] at hz;rcases hz with rfl | rfl | rfl | rfl<;>decide
     rw [tx_3 h1 h2 hs] at h
     exact absurd h (by decide)
theorem wr_1 {r:RT} {cnt:Nat} {a n v:BitVec 64} (h:((readV r cnt a n).2 != 0#64)=true):writeV r cnt a n v=((readV r cnt a n).2,r):=by unfold writeV;rw [h];rfl
theorem wr_2 {r:RT} {cnt:Nat} {a n v:BitVec 64} (h:((readV r cnt a n).2 != 0#64)=false) (hw:(r (atV r cnt a n).toNat).w=false):writeV r cnt a n v=(71#64,r):=by unfold writeV;rw [h,hw];rfl
theorem wr_3 {r:RT} {cnt:Nat} {a n v:BitVec 64} (h:((readV r cnt a n).2 != 0#64)=false) (hw:(r (atV r cnt a n).toNat).w=true):writeV r cnt a n v=(0#64,putR r cnt a (bytV v n)):=by unfold writeV;rw [h,hw];rfl
theorem byt_lt (v n:BitVec 64):(bytV v n).size<9223372036854775808:=Nat.lt_of_le_of_lt (byt_le v n) (by decide)
theorem writeV_ok {r:RT} {cnt:Nat} {a n v:BitVec 64} (R:RgOK r cnt):RgOK (writeV r cnt a n v).2 cnt:=by
 unfold writeV
 split
 · exact R
 · split
   · exact putR_ok (byt_lt v n) R
   · exact R
set_option maxRecDepth 100000 in
set_option maxHeartbeats 16000000 in
theorem Write_walk (T T2:TypeId) (cnt cnt':Nat) (hc:cnt≤cnt') (r:RT) (R:RgOK r cnt) (a n v:BitVec 64) :
 FI Tryd.prog C_m3 Tryd.f92 2 [.one (.ptr 0 0),.one (.b64 false a),.one (.b64 true n),.one (.b64 false v)] [(0,.cells T [.rsl 1 cnt]),(1,.row T2 3 cnt' (rgF r))] (fun u g=>u= .one (.b64 true (writeV r cnt a n v).1)∧∀ i d,Ep.look [(0,.cells T [.rsl 1 cnt]),(1,.row T2 3 cnt' (rgF r))] i=some d→Ep.look g i=lookU [(1,.row T2 3 cnt' (rgF (writeV r cnt a n v).2))] i (some d)):=by
 repeat' (first
  | (with_reducible apply Given.mk;intro h;(try simp only [rgOf_rgF] at h);(try exact absurd h (by decide)))
  | ((conv=>whnf);first
    | with_reducible apply Both.mk
    | fail))
 all_goals first
  | ((with_reducible apply Ob.mk);exact ⟨hc,rfl,R⟩)
  | ((with_reducible apply Ob.mk);exact ⟨hc,rfl,R,byt_lt _ _⟩)
  | ((with_reducible apply Ob.mk);(show Region.lexB _ _=true);kernel_rfl)
  | ((with_reducible apply Ob.mk);exact (read_at (by with_reducible assumption)).1)
  | ((with_reducible apply Ob.mk);(try simp only [rgOf_rgF]);have hA:=at_spec R (read_at (by with_reducible assumption)).2;first
    | with_reducible exact ⟨hA.2.1,hA.1⟩
    | with_reducible exact Nat.lt_of_lt_of_le hA.1 hc)
  | ((conv=>whnf);refine ⟨?_,?_⟩<;>(try simp only [rgOf_rgF])<;>rw [wr_1 (by with_reducible assumption)];exact ups_0 rfl rfl)
  | ((conv=>whnf);refine ⟨?_,?_⟩<;>(try simp only [rgOf_rgF])<;>rw [wr_2 (by with_reducible assumption) (by simpa using h)];exact ups_0 rfl rfl)
  | ((conv=>whnf);refine ⟨?_,?_⟩<;>(try simp only [rgOf_rgF])<;>rw [wr_3 (by with_reducible assumption) (by simpa using h)];exact ups_1)
  | ((conv=>whnf);skip)
noncomputable def sp_write:SpW:=fun args ch=>match args,ch with
 | [.one (.ptr 0 0),.one (.b64 false a),.one (.b64 true n),.one (.b64 false v)],[(0,.cells T [.rsl 1 cnt]),(1,.row T2 3 cnt' f)]=>some (.p (cnt≤cnt'∧f=rgF (rgOf f)∧RgOK (rgOf f) cnt),.one (.b64 true (writeV (rgOf f) cnt a n v).1),[(1,.row T2 3 cnt' (rgF (writeV (rgOf f) cnt a n v).2))])
 | _,_=>none
set_option maxRecDepth 100000 in
theorem e_write:EntryW Tryd.prog anyWorld 92 sp_write:=by
 refine .of_FI C_m3_ok (by kernel_rfl) Tryd.func92 (by kernel_rfl) (by kernel_rfl) (fun args ch c v ups h hc=> ?_)
 unfold sp_write at h
 split at h
 · rename_i a n v T cnt T2 cnt' f
   cases h
   obtain ⟨h1,h2,h3⟩:=hc
   generalize rgOf f=r at *
   subst h2
   exact Write_walk T T2 cnt cnt' h1 r h3 a n v
 · cases h
def uF (R:Nat→BitVec 64):Nat→List PL:=fun k=>[.b64 false (R k)]
def uOf (f:Nat→List PL):Nat→BitVec 64:=fun k=>match f k with
 | [.b64 _ x]=>x
 | _=>0#64
def sp_base:Sp:=fun args=>match args with
 | [.one (.b64 true i)]=>some (.t,.one (.b64 false (1048576#64 + i*65536#64)))
 | _=>none
def apartB (ab bb:BitVec 64) (ad bd:ByteArray):Bool:=(ab + BitVec.ofNat 64 ad.size).ule bb||(bb + BitVec.ofNat 64 bd.size).ule ab
def sp_apart:Sp:=fun args=>match args with
 | [.agg [.b64 false ab,.str ad,.bool _],.agg [.b64 false bb,.str bd,.bool _]]=>some (.p (ad.size<9223372036854775808∧bd.size<9223372036854775808),.one (.bool (apartB ab bb ad bd)))
 | _=>none
def sp_zeros:Sp:=fun args=>match args with
 | [.one (.b64 true n)]=>some (.p (0≤n.toInt∧n.toNat≤1000),.one (.str (rowStr n.toNat fun _=>[.b8 false 0#8])))
 | _=>none
set_option maxRecDepth 100000 in
theorem e_base:EntryOK Tryd.prog anyWorld 56 sp_base:=by
 refine .of_F C_m_ok (by kernel_rfl) Tryd.func56 (by kernel_rfl) (by kernel_rfl) (fun args c v h hc=> ?_)
 unfold sp_base at h
 split at h
 · rename_i i
   cases h
   refine ⟨rfl,rfl,?_⟩
   repeat' (first
    | (with_reducible apply Given.mk;intro h)
    | ((conv=>whnf);first
      | with_reducible apply Both.mk
      | fail))
   all_goals first
    | ((conv=>whnf);(with_reducible apply Ob.mk);exact Eq.refl _)
 · cases h
set_option maxRecDepth 100000 in
theorem e_apart:EntryOK Tryd.prog anyWorld 57 sp_apart:=by
 refine .of_F C_m_ok (by kernel_rfl) Tryd.func57 (by kernel_rfl) (by kernel_rfl) (fun args c v h hc=> ?_)
 unfold sp_apart at h
 split at h
 · rename_i ab ad x bb bd y
   cases h
   refine ⟨rfl,rfl,?_⟩
   obtain ⟨h1,h2⟩:ad.size<9223372036854775808∧bd.size<9223372036854775808:=hc
   repeat' (first
    | (with_reducible apply Given.mk;intro h)
    | ((conv=>whnf);first
      | with_reducible apply Both.mk
      | fail))
   all_goals first
    | ((with_reducible apply Ob.mk);first | exact h1 | exact h2)
    | ((conv=>whnf);(with_reducible apply Ob.mk);show AV.one (L.bool _)=AV.one (L.bool _);unfold apartB;rw [h];rfl)
 · cases h
set_option maxRecDepth 100000 in
theorem e_zeros:EntryOK Tryd.prog anyWorld 31 sp_zeros:=by
 refine .of_F C_m_ok (by kernel_rfl) Tryd.func31 (by kernel_rfl) (by kernel_rfl) (fun args c v h hc=> ?_)
 unfold sp_zeros at h
 split at h
 · rename_i n
   cases h
   refine ⟨rfl,rfl,?_⟩
   obtain ⟨h1,h2⟩:0≤n.toInt∧n.toNat≤1000:=hc
   repeat' (first
    | (with_reducible apply Given.mk;intro h)
    | ((conv=>whnf);first
      | with_reducible apply Both.mk
      | fail))
   all_goals first
    | ((with_reducible apply Ob.mk);first | exact ⟨rfl,Nat.lt_of_le_of_lt h2 (by decide)⟩ | exact ⟨Nat.le_refl _,fun _ _=>rfl⟩)
    | ((conv=>whnf);(with_reducible apply Ob.mk);exact Eq.refl _)
 · cases h
abbrev tb_m0:List (Nat×Sp):=[]
theorem C_m0:CSound Tryd.prog anyWorld (tab noData tb_m0):=CSound.start
theorem pow_s (k:Nat):(1#64 <<< k)*2#64=1#64 <<< (k + 1):=by
 rw [BitVec.shiftLeft_add,BitVec.shiftLeft_eq_mul_twoPow _ 1];rfl
theorem pow_sA (k:Nat):AV.one (.b64 false ((1#64 <<< k)*2#64))=AV.one (.b64 false (1#64 <<< (k + 1))):=by rw [pow_s]
theorem ult_ne {b:BitVec 64} (h:(0#64).ult b=true):b≠0#64:=by
 rintro rfl
 exact absurd h (by decide)
theorem rLow64 (v:BitVec 64):rLow v 64#64=v:=rfl
theorem mod64 (b:BitVec 64):(b % 64#64).toNat<64:=by
 rw [BitVec.toNat_umod]
 exact Nat.mod_lt _ (by decide)
theorem mod32 (b:BitVec 64):(b % 32#64).toNat<64:=by
 rw [BitVec.toNat_umod]
 have:b.toNat % (32#64).toNat<(32#64).toNat:=Nat.mod_lt _ (by decide)
 have e:(32#64).toNat=32:=rfl
 omega
def rDoN (o:BitVec 8) (a b n:BitVec 64):BitVec 64:=
 if (o==0#8)=true then a + b else if (o==16#8)=true then a - b else if (o==32#8)=true then a*b
 else if (o==48#8&&(0#64).ult b)=true then a / b
 else if (o==144#8)=true then (if (0#64).ult b=true then a % b else a)
 else if (o==64#8)=true then a ||| b else if (o==80#8)=true then a &&& b else if (o==160#8)=true then a ^^^ b
 else if (o==96#8)=true then a*1#64 <<< (b % n).toNat
 else if (o==112#8)=true then a / 1#64 <<< (b % n).toNat
 else if (o==192#8)=true then rSign (a / 1#64 <<< (b % n).toNat) (n - b % n)
 else if (o==128#8)=true then 0#64 - a else if (o==176#8)=true then b else 0#64
def rDoW (o:BitVec 8) (w:Bool) (a b:BitVec 64):BitVec 64:=if w=true then rDoN o a b 64#64 else rLow (rDoN o (rLow a 32#64) (rLow b 32#64) 32#64) 32#64
def widV (w:Bool):BitVec 64:=if w then 64#64 else 32#64
def flipV (a h:BitVec 64):BitVec 64:=(a + h) % h + h - a / h*h
def rHolds (o:BitVec 8) (w:Bool) (a b:BitVec 64):Bool:=
 if o==0#8 then true else if o==16#8 then rLow a (widV w)==rLow b (widV w) else if o==80#8 then rLow a (widV w) != rLow b (widV w)
 else if o==32#8 then (rLow b (widV w)).ult (rLow a (widV w)) else if o==48#8 then (rLow b (widV w)).ule (rLow a (widV w))
 else if o==160#8 then (rLow a (widV w)).ult (rLow b (widV w)) else if o==176#8 then (rLow a (widV w)).ule (rLow b (widV w))
 else if o==96#8 then (flipV (rLow b (widV w)) (1#64 <<< (widV w - 1#64).toNat)).ult (flipV (rLow a (widV w)) (1#64 <<< (widV w - 1#64).toNat))
 else if o==112#8 then (flipV (rLow b (widV w)) (1#64 <<< (widV w - 1#64).toNat)).ule (flipV (rLow a (widV w)) (1#64 <<< (widV w - 1#64).toNat))
 else if o==192#8 then (flipV (rLow a (widV w)) (1#64 <<< (widV w - 1#64).toNat)).ult (flipV (rLow b (widV w)) (1#64 <<< (widV w - 1#64).toNat))
 else if o==208#8 then (flipV (rLow a (widV w)) (1#64 <<< (widV w - 1#64).toNat)).ule (flipV (rLow b (widV w)) (1#64 <<< (widV w - 1#64).toNat))
 else if o==64#8 then (0#64).ult (rLow a (widV w) &&& rLow b (widV w)) else false
def stackV (a:BitVec 64):BitVec 64:=if (a.ult 131072#64||(131584#64).ule a)=true then BitVec.ofInt 64 (Int.negSucc 0) else a - 131072#64
def sheerB (a:BitVec 64):Bool:=(65536#64).ule a&&a.ult 65552#64
def argsV (i:BitVec 64):BitVec 64:=if (i==1#64||i==3#64)=true then 2#64 else if (i==2#64)=true then 4#64 else if (i==7#64)=true then 0#64 else BitVec.ofInt 64 (Int.negSucc 0)
def sp_firewallref01_Power:Sp
 | [.one (.b64 true n)]=>some (Cond.p (n.toNat<64),.one (.b64 false (1#64 <<< n.toNat)))
 | _=>none
set_option maxRecDepth 100000 in
set_option maxHeartbeats 4000000 in
theorem e_firewallref01_Power:EntryOK Tryd.prog anyWorld 97 sp_firewallref01_Power:=by
 refine .of_F (C_m0) (by kernel_rfl) Tryd.func97 (by kernel_rfl) (by kernel_rfl) (fun args c v h hc=> ?_)
 unfold sp_firewallref01_Power at h
 split at h
 · rename_i n;cases h
   refine ⟨rfl,rfl,?_⟩
   have hn:n.toNat<64:=hc
   have hni:n.toInt=(n.toNat:Int):=by rw [BitVec.toInt_eq_toNat_cond];split<;>omega
   repeat' (first
    | (with_reducible apply Given.mk;intro h)
    | ((conv=>whnf);first
      | with_reducible apply Both.mk
      | (refine LoopP.mk Nat (fun k=>k≤n.toNat) (fun k=>mkS (Tryd.f97).ntmps [(0,.one (.b64 true n)),(3,.one (.b64 false (1#64 <<< k))),(4,iN k)] []) (fun k=>64 - k) ⟨0,by omega,⟨?_,?_,?_,?_,?_⟩⟩ ?_;(iterate 2 (focus ((repeat' ((conv=>whnf);first | exact trivial | refine Both.mk (by first | with_reducible rfl | rfl) ?_));done)));(iterate 3 (focus exact rfl));(intro k hk;have hki:(BitVec.ofNat 64 k).toInt=(k:Int):=toInt_ofNat (by omega)))))
   all_goals first
    | (with_reducible apply Ob.mk;kernel_rfl)
    | ((have hlt:k<n.toNat:=by rw [BitVec.slt_iff_toInt_lt,hki,hni] at h;omega);(conv=>whnf);refine ⟨k + 1,hlt,by omega,⟨?_,?_,?_,?_,?_⟩⟩;(focus ((repeat' ((conv=>whnf);first | exact trivial | refine Both.mk (by first | with_reducible rfl | exact iN_succ _ | exact pow_sA _ | rfl) ?_));done));(focus ((repeat' ((conv=>whnf);first | exact trivial | refine Both.mk (by first | with_reducible rfl | rfl) ?_));done));(iterate 3 (focus exact rfl)))
    | ((have hge:k=n.toNat:=by (have:¬ ((BitVec.ofNat 64 k).slt n=true):=by rw [h];decide);rw [BitVec.slt_iff_toInt_lt,hki,hni] at this;omega);(conv=>whnf);subst hge;exact ⟨rfl⟩)
 · cases h
abbrev tb_firewallref01_Power:List (Nat×Sp):=(97,sp_firewallref01_Power)::tb_m0
theorem C_firewallref01_Power:CSound Tryd.prog anyWorld (tab noData tb_firewallref01_Power):=(C_m0).cons (e_firewallref01_Power)
def sp_firewallref01_Low:Sp
 | [.one (.b64 false v),.one (.b64 true n)]=>some (Cond.t,.one (.b64 false (rLow v n)))
 | _=>none
set_option maxRecDepth 100000 in
set_option maxHeartbeats 4000000 in
theorem e_firewallref01_Low:EntryOK Tryd.prog anyWorld 96 sp_firewallref01_Low:=by
 refine .of_F (C_firewallref01_Power) (by kernel_rfl) Tryd.func96 (by kernel_rfl) (by kernel_rfl) (fun args c v h hc=> ?_)
 unfold sp_firewallref01_Low at h
 split at h
 · rename_i v n;cases h
   refine ⟨rfl,rfl,?_⟩
   repeat' (first
    | (with_reducible apply Given.mk;intro h)
    | ((conv=>whnf);with_reducible apply Both.mk))
   all_goals first
    | (with_reducible apply Ob.mk;exact sle_lt (by assumption) (by assumption))
    | (with_reducible apply Ob.mk;exact pow_ne (sle_lt (by assumption) (by assumption)))
    | ((conv=>whnf);refine ⟨?_⟩;simp only [rLow, *,if_true,if_false,Bool.false_eq_true];done)
    | (with_reducible apply Ob.mk;kernel_rfl)
 · cases h
abbrev tb_firewallref01_Low:List (Nat×Sp):=(96,sp_firewallref01_Low)::tb_firewallref01_Power
theorem C_firewallref01_Low:CSound Tryd.prog anyWorld (tab noData tb_firewallref01_Low):=(C_firewallref01_Power).cons (e_firewallref01_Low)
def sp_firewallref01_Sign:Sp
 | [.one (.b64 false v),.one (.b64 true n)]=>some (Cond.t,.one (.b64 false (rSign v n)))
 | _=>none
set_option maxRecDepth 100000 in
set_option maxHeartbeats 4000000 in
theorem e_firewallref01_Sign:EntryOK Tryd.prog anyWorld 89 sp_firewallref01_Sign:=by
 refine .of_F (C_firewallref01_Low) (by kernel_rfl) Tryd.func89 (by kernel_rfl) (by kernel_rfl) (fun args c v h hc=> ?_)
 unfold sp_firewallref01_Sign at h
 split at h
 · rename_i v n;cases h
   refine ⟨rfl,rfl,?_⟩
   repeat' (first
    | (with_reducible apply Given.mk;intro h;(try exact absurd h (by decide)))
    | ((conv=>whnf);with_reducible apply Both.mk))
   all_goals first
    | (with_reducible apply Ob.mk;exact sle_lt (by assumption) (by assumption))
    | (with_reducible apply Ob.mk;exact sle_lt1 (by assumption) (by assumption))
    | ((conv=>whnf);refine ⟨?_⟩;simp only [rSign, *,if_true,if_false,Bool.false_eq_true,Bool.true_or,Bool.or_true,Bool.false_or,Bool.or_false];done)
    | (with_reducible apply Ob.mk;kernel_rfl)
 · cases h
abbrev tb_firewallref01_Sign:List (Nat×Sp):=(89,sp_firewallref01_Sign)::tb_firewallref01_Low
theorem C_firewallref01_Sign:CSound Tryd.prog anyWorld (tab noData tb_firewallref01_Sign):=(C_firewallref01_Low).cons (e_firewallref01_Sign)
def sp_firewallref05_Do:Sp
 | [.one (.b8 false o),.one (.bool w),.one (.b64 false a),.one (.b64 false b)]=>some (Cond.t,.one (.b64 false (rDoW o w a b)))
 | _=>none
set_option maxRecDepth 100000 in
set_option maxHeartbeats 4000000 in
theorem e_firewallref05_Do:EntryOK Tryd.prog anyWorld 83 sp_firewallref05_Do:=by
 refine .of_F (C_firewallref01_Sign) (by kernel_rfl) Tryd.func83 (by kernel_rfl) (by kernel_rfl) (fun args c v h hc=> ?_)
 unfold sp_firewallref05_Do at h
 split at h
 · rename_i o w a b;cases h
   refine ⟨rfl,rfl,?_⟩
   cases w
   all_goals
    repeat' (first
     | (with_reducible apply Given.mk;intro h;(try exact absurd h (by decide)))
     | ((conv=>whnf);with_reducible apply Both.mk))
    all_goals first
     | (with_reducible apply Ob.mk;exact mod64 _)
     | (with_reducible apply Ob.mk;exact mod32 _)
     | (with_reducible apply Ob.mk;exact pow_ne (mod64 _))
     | (with_reducible apply Ob.mk;exact pow_ne (mod32 _))
     | (with_reducible apply Ob.mk;exact ult_ne (by assumption))
     | (with_reducible apply Ob.mk;decide)
     | ((conv=>whnf);refine ⟨?_⟩;(try simp only [rLow64] at *);simp only [rDoW,rDoN, *,if_true,if_false,Bool.false_eq_true,Bool.true_and,Bool.false_and,Bool.and_true,Bool.and_false];done)
     | (exfalso;simp_all;done)
     | (with_reducible apply Ob.mk;kernel_rfl)
 · cases h
abbrev tb_firewallref05_Do:List (Nat×Sp):=(83,sp_firewallref05_Do)::tb_firewallref01_Sign
theorem C_firewallref05_Do:CSound Tryd.prog anyWorld (tab noData tb_firewallref05_Do):=(C_firewallref01_Sign).cons (e_firewallref05_Do)
def sp_firewallref06_Holds:Sp
 | [.one (.b8 false o),.one (.bool w),.one (.b64 false a),.one (.b64 false b)]=>some (Cond.t,.one (.bool (rHolds o w a b)))
 | _=>none
set_option maxRecDepth 100000 in
set_option maxHeartbeats 4000000 in
theorem e_firewallref06_Holds:EntryOK Tryd.prog anyWorld 74 sp_firewallref06_Holds:=by
 refine .of_F (C_firewallref05_Do) (by kernel_rfl) Tryd.func74 (by kernel_rfl) (by kernel_rfl) (fun args c v h hc=> ?_)
 unfold sp_firewallref06_Holds at h
 split at h
 · rename_i o w a b;cases h
   refine ⟨rfl,rfl,?_⟩
   cases w
   all_goals
    repeat' (first
     | (with_reducible apply Given.mk;intro h;(try exact absurd h (by decide)))
     | ((conv=>whnf);with_reducible apply Both.mk))
    all_goals first
     | (with_reducible apply Ob.mk;decide)
     | ((conv=>whnf);refine ⟨?_⟩;simp_all [rHolds,widV,flipV];done)
     | (with_reducible apply Ob.mk;kernel_rfl)
 · cases h
abbrev tb_firewallref06_Holds:List (Nat×Sp):=(74,sp_firewallref06_Holds)::tb_firewallref05_Do
theorem C_firewallref06_Holds:CSound Tryd.prog anyWorld (tab noData tb_firewallref06_Holds):=(C_firewallref05_Do).cons (e_firewallref06_Holds)
def sp_firewallref10_stack:Sp
 | [.one (.b64 false a)]=>some (Cond.t,.one (.b64 true (stackV a)))
 | _=>none
set_option maxRecDepth 100000 in
set_option maxHeartbeats 4000000 in
theorem e_firewallref10_stack:EntryOK Tryd.prog anyWorld 91 sp_firewallref10_stack:=by
 refine .of_F (C_firewallref06_Holds) (by kernel_rfl) Tryd.func91 (by kernel_rfl) (by kernel_rfl) (fun args c v h hc=> ?_)
 unfold sp_firewallref10_stack at h
 split at h
 · rename_i a;cases h
   refine ⟨rfl,rfl,?_⟩
   repeat' (first
    | (with_reducible apply Given.mk;intro h;(try exact absurd h (by decide)))
    | ((conv=>whnf);with_reducible apply Both.mk))
   all_goals first
    | (with_reducible apply Ob.mk;kernel_rfl)
    | (with_reducible apply Ob.mk;decide)
    | (with_reducible apply Ob.mk;simp [ByteArray.size,catB,exB,stackV];done)
    | ((conv=>whnf);refine ⟨?_⟩;first | with_reducible rfl | (simp only [stackV, *,Bool.true_and,Bool.and_true,Bool.false_and,Bool.and_false,Bool.true_or,Bool.or_true,Bool.false_or,Bool.or_false,Bool.not_true,Bool.not_false,Bool.false_eq_true,Bool.true_eq_false,if_true,if_false,reduceCtorEq];done) | (simp_all [stackV];done) | rfl)
 · cases h
abbrev tb_firewallref10_stack:List (Nat×Sp):=(91,sp_firewallref10_stack)::tb_firewallref06_Holds
theorem C_firewallref10_stack:CSound Tryd.prog anyWorld (tab noData tb_firewallref10_stack):=(C_firewallref06_Holds).cons (e_firewallref10_stack)
def sp_firewallref10_sheer:Sp
 | [.one (.b64 false a)]=>some (Cond.t,.one (.bool (sheerB a)))
 | _=>none
set_option maxRecDepth 100000 in
set_option maxHeartbeats 4000000 in
theorem e_firewallref10_sheer:EntryOK Tryd.prog anyWorld 90 sp_firewallref10_sheer:=by
 refine .of_F (C_firewallref10_stack) (by kernel_rfl) Tryd.func90 (by kernel_rfl) (by kernel_rfl) (fun args c v h hc=> ?_)
 unfold sp_firewallref10_sheer at h
 split at h
 · rename_i a;cases h
   refine ⟨rfl,rfl,?_⟩
   repeat' (first
    | (with_reducible apply Given.mk;intro h;(try exact absurd h (by decide)))
    | ((conv=>whnf);with_reducible apply Both.mk))
   all_goals first
    | (with_reducible apply Ob.mk;kernel_rfl)
    | (with_reducible apply Ob.mk;decide)
    | (with_reducible apply Ob.mk;simp [ByteArray.size,catB,exB,sheerB];done)
    | ((conv=>whnf);refine ⟨?_⟩;first | with_reducible rfl | (simp only [sheerB, *,Bool.true_and,Bool.and_true,Bool.false_and,Bool.and_false,Bool.true_or,Bool.or_true,Bool.false_or,Bool.or_false,Bool.not_true,Bool.not_false,Bool.false_eq_true,Bool.true_eq_false,if_true,if_false,reduceCtorEq];done) | (simp_all [sheerB];done) | rfl)
 · cases h
abbrev tb_firewallref10_sheer:List (Nat×Sp):=(90,sp_firewallref10_sheer)::tb_firewallref10_stack
theorem C_firewallref10_sheer:CSound Tryd.prog anyWorld (tab noData tb_firewallref10_sheer):=(C_firewallref10_stack).cons (e_firewallref10_sheer)
def sp_firewallref09_Args:Sp
 | [.one (.b64 true a)]=>some (Cond.t,.one (.b64 true (argsV a)))
 | _=>none
set_option maxRecDepth 100000 in
set_option maxHeartbeats 4000000 in
theorem e_firewallref09_Args:EntryOK Tryd.prog anyWorld 93 sp_firewallref09_Args:=by
 refine .of_F (C_firewallref10_sheer) (by kernel_rfl) Tryd.func93 (by kernel_rfl) (by kernel_rfl) (fun args c v h hc=> ?_)
 unfold sp_firewallref09_Args at h
 split at h
 · rename_i a;cases h
   refine ⟨rfl,rfl,?_⟩
   repeat' (first
    | (with_reducible apply Given.mk;intro h;(try exact absurd h (by decide)))
    | ((conv=>whnf);with_reducible apply Both.mk))
   all_goals first
    | (with_reducible apply Ob.mk;kernel_rfl)
    | (with_reducible apply Ob.mk;decide)
    | (with_reducible apply Ob.mk;simp [ByteArray.size,catB,exB,argsV];done)
    | ((conv=>whnf);refine ⟨?_⟩;first | with_reducible rfl | (simp only [argsV, *,Bool.true_and,Bool.and_true,Bool.false_and,Bool.and_false,Bool.true_or,Bool.or_true,Bool.false_or,Bool.or_false,Bool.not_true,Bool.not_false,Bool.false_eq_true,Bool.true_eq_false,if_true,if_false,reduceCtorEq];done) | (simp_all [argsV];done) | rfl)
 · cases h
end Go.Proofs.YthkgakelgdncjaaDoor
namespace Go.Ep
open Go.RowKit
set_option linter.unusedVariables false
set_option linter.unusedSimpArgs false
abbrev Mask:=TypeId→Nat→Bool
def hideL (b:Bool) (l:L):L:=match b with
 | true=>match l with
   | .seg z n f=> .seg z n f
   | _=> .junk
 | false=>l
def holLs (mk:Nat→Bool):Nat→List L→List L
 | _,[]=>[]
 | q,l::r=>hideL (mk q) l::holLs mk (q + 1) r
def holB (mk:Mask) (b:Blk):Blk:=match b with
 | .cells T ls=> .cells T (holLs (mk T) 0 ls)
 | b=>b
def holH (mk:Mask):List (Nat×Blk)→List (Nat×Blk)
 | []=>[]
 | (i,b)::r=>(i,holB mk b)::holH mk r
noncomputable def holHK (mk:Mask) (h:List (Nat×Blk)):(List (Nat×Blk)→Prop)→Prop:=
 List.rec (motive:=fun _=>(List (Nat×Blk)→Prop)→Prop) (fun k=>k [])
  (fun p _ ih k=>match p with
    | (i,b)=>forceB (holB mk b) fun b=>ih fun r=>k ((i,b)::r)) h
def merLs:List L→List L→Option (List L)
 | [],[]=>some []
 | l::r,l'::r'=>match merLs r r' with
   | some s=>match l' with
     | .junk=>match isSeg l with
       | true=>none
       | false=>some (l::s)
     | l'=>some (l'::s)
   | none=>none
 | _,_=>none
def merB (b b':Blk):Option Blk:=match b with
 | .cells T ls=>match b' with
   | .cells T' ls'=>match merLs ls ls' with
     | some r=>some (.cells T' r)
     | none=>none
   | _=>none
 | _=>some b'
noncomputable def merK (h hh:List (Nat×Blk)):(List (Nat×Blk)→Prop)→Prop:=
 List.rec (motive:=fun _=>(List (Nat×Blk)→Prop)→Prop) (fun k=>k [])
  (fun p _ ih k=>match p with
    | (i,b)=>match look hh i with
      | some b'=>match merB b b' with
        | some c=>forceB c fun c=>ih fun r=>k ((i,c)::r)
        | none=>Stuck "mer"
      | none=>Stuck "mer") h
def tabO:List (Nat×(Mask×SpW))→FuncId→Option (Mask×SpW)
 | [],_=>none
 | (g,x)::r,f=>match Nat.beq g f with
   | true=>some x
   | false=>tabO r f
noncomputable def oInl (ws:List (Nat×(Mask×SpW))) (base:FuncId→Nat→List AV→List (Nat×Blk)→(AV→List (Nat×Blk)→Prop)→Prop):FuncId→Nat→List AV→List (Nat×Blk)→(AV→List (Nat×Blk)→Prop)→Prop:=
 fun f tp args h K=>match tabO ws f with
  | none=>base f tp args h K
  | some x=>match x with
    | (mk,sp)=>holHK mk h fun hh=>forceNs (reachN hh 60 (anames args) []) fun ns=>match subNs ns (anames args),closedIn hh ns ns,distN ns,chOf hh ns ns 0 with
      | true,true,true,some ch=>match sp (canAs ns args) ch with
        | some (c,v,ups)=>withC c (forceA v fun v=>match v.names with
          | []=>setAllK ns ups hh fun hh'=>merK h hh' fun h'=>K v h'
          | _=>Stuck "write")
        | none=>base f tp args h K
      | _,_,_,_=>Stuck "reach"
def stufL (v:Value) (l:L):L:=match l with
 | .junk=> .raw v
 | l=>l
def stufLs (v:Nat→Value):Nat→List L→List L
 | _,[]=>[]
 | q,l::r=>stufL (v q) l::stufLs v (q + 1) r
def stufB (v:Nat→Value) (b:Blk):Blk:=match b with
 | .cells T ls=> .cells T (stufLs v 0 ls)
 | b=>b
def stufH (vs:Nat→Nat→Value):List (Nat×Blk)→List (Nat×Blk)
 | []=>[]
 | (i,b)::r=>(i,stufB (vs i) b)::stufH vs r
structure EntryO (P:Program) (G:World→Prop) (f:FuncId) (sp:SpW):Prop where
 fn:∃ fn,P.funcs[f]? =some fn∧(fn.name== "runtime.NumGoroutine")=false∧fn.body.isNone=false
 calls:∀ args ch c v ups,sp args ch=some (c,v,ups)→c.holds→v.names=[]→∀ vs,CallsW P G f args (stufH vs ch) v (stufH vs ups)
section
variable {P : Program} {G : World → Prop}
theorem stufL_names {v:Value} {l:L}:(stufL v l).names=l.names:=by cases l<;>rfl
theorem stufLs_names {v:Nat→Value}:∀ {ls:List L} {q:Nat},lnames (stufLs v q ls)=lnames ls
 | [],_=>rfl
 | l::r,q=>by simp only [stufLs,lnames,stufL_names,stufLs_names (ls:=r)]
theorem stufB_names {v:Nat→Value} {b:Blk}:(stufB v b).names=b.names:=by
 cases b<;>first | exact stufLs_names | rfl
theorem stufB_own {v:Nat→Value} {b:Blk}:(stufB v b).own=b.own:=by cases b<;>rfl
theorem stufL_can {v:Value} {ns:List Nat} {l:L}:stufL v (l.can ns)=(stufL v l).can ns:=by cases l<;>rfl
theorem stufL_unc {v:Value} {ns:List Nat} {l:L}:stufL v (l.unc ns)=(stufL v l).unc ns:=by cases l<;>rfl
theorem stufLs_can {v:Nat→Value} {ns:List Nat}:∀ {ls:List L} {q:Nat},stufLs v q (canLs ns ls)=canLs ns (stufLs v q ls)
 | [],_=>rfl
 | l::r,q=>by simp only [stufLs,canLs,stufL_can,stufLs_can (ls:=r)]
theorem stufLs_unc {v:Nat→Value} {ns:List Nat}:∀ {ls:List L} {q:Nat},stufLs v q (uncLs ns ls)=uncLs ns (stufLs v q ls)
 | [],_=>rfl
 | l::r,q=>by simp only [stufLs,uncLs,stufL_unc,stufLs_unc (ls:=r)]
theorem stufB_can {v:Nat→Value} {ns:List Nat} {b:Blk}:stufB v (b.can ns)=(stufB v b).can ns:=by
 cases b<;>first | exact congrArg _ stufLs_can | rfl
theorem stufB_unc {v:Nat→Value} {ns:List Nat} {b:Blk}:stufB v (b.unc ns)=(stufB v b).unc ns:=by
 cases b<;>first | exact congrArg _ stufLs_unc | rfl
theorem hideL_names {b:Bool} {l:L} {m:Nat} (h:m∈(hideL b l).names):m∈l.names:=by
 unfold hideL at h
 split at h
 · split at h
   · exact h
   · simp [L.names] at h
 · exact h
theorem holLs_names {mk:Nat→Bool} {m:Nat}:∀ {ls:List L} {q:Nat},m∈lnames (holLs mk q ls)→m∈lnames ls
 | [],_,h=>h
 | l::r,q,h=>by
   simp only [holLs,lnames,List.mem_append] at h ⊢
   exact h.imp hideL_names holLs_names
theorem holB_names {mk:Mask} {b:Blk} {m:Nat} (h:m∈(holB mk b).names):m∈b.names:=by
 cases b<;>first | exact holLs_names h | exact h
theorem holB_own {mk:Mask} {b:Blk}:(holB mk b).own=b.own:=by cases b<;>rfl
theorem holH_look {mk:Mask}:∀ (h:List (Nat×Blk)) (i:Nat),look (holH mk h) i=(look h i).map (holB mk)
 | [],_=>rfl
 | (j,b)::r,i=>by
   simp only [holH]
   rw [look_eq_beq,look_eq_beq]
   split
   · rfl
   · exact holH_look r i
theorem holHK_eq {mk:Mask}:∀ (h:List (Nat×Blk)) (k:List (Nat×Blk)→Prop),holHK mk h k=k (holH mk h)
 | [],_=>rfl
 | (j,b)::r,k=>by
   show forceB (holB mk b) (fun b=>holHK mk r fun r=>k ((j,b)::r))=_
   rw [forceB_eq,holHK_eq r];rfl
theorem stufH_look {vs:Nat→Nat→Value}:∀ (h:List (Nat×Blk)) (i:Nat),look (stufH vs h) i=(look h i).map (stufB (vs i))
 | [],_=>rfl
 | (j,b)::r,i=>by
   simp only [stufH]
   rw [look_eq_beq,look_eq_beq]
   split
   · rename_i e;subst e;rfl
   · exact stufH_look r i
theorem stufH_len {vs:Nat→Nat→Value}:∀ (h:List (Nat×Blk)),(stufH vs h).length=h.length
 | []=>rfl
 | (j,b)::r=>congrArg (· + 1) (stufH_len r)
theorem stufH_mem {vs:Nat→Nat→Value} {p:Nat×Blk}:∀ {h:List (Nat×Blk)},p∈stufH vs h→∃ b,(p.1,b)∈h∧p.2=stufB (vs p.1) b
 | [],hp=>by simp [stufH] at hp
 | (j,b)::r,hp=>by
   simp only [stufH,List.mem_cons] at hp
   rcases hp with rfl | hp
   · exact ⟨b,by simp,rfl⟩
   · obtain ⟨b',h1,h2⟩:=stufH_mem hp
     exact ⟨b',by simp [h1],h2⟩
theorem stuf_weakL {ρ:Nat→Loc} {v:Value} {l:L} {us:List Value} (h:RelI ρ (stufL v l) us):RelI ρ l us:=by
 cases l<;>first
  | exact h
  | (obtain ⟨u,e,_⟩:=(relI_one (by rfl)).1 h
     exact (relI_one (by rfl)).2 ⟨u,e,fun hn=>absurd rfl hn⟩)
theorem stuf_weakLs {ρ:Nat→Loc} {v:Nat→Value}:∀ {ls:List L} {q:Nat} {us:List Value},RelLs ρ (stufLs v q ls) us→RelLs ρ ls us
 | [],_,_,h=>h
 | l::r,q,us,⟨a,b,e,h1,h2⟩=>⟨a,b,e,stuf_weakL h1,stuf_weakLs h2⟩
theorem stuf_weak {ρ:Nat→Loc} {v:Nat→Value} {b:Blk} {q:Loc} {o:Option Obj} (h:RelB ρ q (stufB v b) o):RelB ρ q b o:=by
 cases b with
 | cells T ls=>obtain ⟨cs,e,h1,h2⟩:=h;exact ⟨cs,e,h1,stuf_weakLs h2⟩
 | _=>exact h
def Holds1 (ρ:Nat→Loc) (ls:List L) (q:Nat) (v:Nat→Value):Prop:=∀ k l,ls[k]? =some l→isSeg l=false→RelL ρ l (v (q + k))
theorem vals_of {ρ:Nat→Loc} {mk:Nat→Bool}:∀ {ls:List L} {q:Nat} {us:List Value},RelLs ρ ls us→∃ v:Nat→Value,Holds1 ρ ls q v∧RelLs ρ (stufLs v q (holLs mk q ls)) us
 | [],q,us,h=>⟨fun _=>undef,fun k l hk=>by simp at hk,h⟩
 | l::r,q,us,⟨a,b,e,h1,h2⟩=>by
   obtain ⟨v,g1,g2⟩:=vals_of (mk:=mk) (q:=q + 1) h2
   have key:∀ u:Value,RelLs ρ (stufLs (fun k=>if k=q then u else v k) (q + 1) (holLs mk (q + 1) r)) b:=fun u=>by
    have:∀ (ls:List L) (p:Nat),q<p→stufLs (fun k=>if k=q then u else v k) p ls=stufLs v p ls:=fun ls=>by
     induction ls with
     | nil=>intro p _;rfl
     | cons x xs ih=>intro p hp;simp only [stufLs];rw [if_neg (by omega),ih (p + 1) (by omega)]
    rw [this _ _ (by omega)];exact g2
   have hold:∀ u:Value,(isSeg l=false→RelL ρ l u)→Holds1 ρ (l::r) q (fun k=>if k=q then u else v k):=fun u hu k x hk hs=>by
    cases k with
    | zero=>
      simp only [List.getElem?_cons_zero,Option.some.injEq] at hk
      subst hk
      rw [Nat.add_zero];show RelL ρ l (if q=q then u else v q);rw [if_pos rfl];exact hu hs
    | succ k=>
      rw [List.getElem?_cons_succ] at hk
      have:=g1 k x hk hs
      rw [show q + (k + 1)=q + 1 + k by omega]
      show RelL ρ x (if q + 1 + k=q then u else v (q + 1 + k))
      rw [if_neg (by omega)];exact this
   cases hs:isSeg l with
   | true=>
     refine ⟨fun k=>if k=q then undef else v k,hold _ (fun e=>by rw [hs] at e;cases e),a,b,e,?_,key _⟩
     cases l<;>simp [isSeg] at hs
     unfold hideL
     split<;>exact h1
   | false=>
     obtain ⟨u,e1,h3⟩:=(relI_one hs).1 h1
     refine ⟨fun k=>if k=q then u else v k,hold _ (fun _=>h3),a,b,e,?_,key _⟩
     show RelI ρ (stufL (if q=q then u else v q) (hideL (mk q) l)) a
     rw [if_pos rfl]
     unfold hideL
     split
     · have:(match l with | .seg z n f=>L.seg z n f | _=>L.junk)= .junk:=by cases l<;>first | rfl | simp [isSeg] at hs
       rw [this]
       exact (relI_one (by rfl)).2 ⟨u,e1,fun _=>rfl⟩
     · cases l<;>first
        | exact h1
        | exact (relI_one (by rfl)).2 ⟨u,e1,fun _=>rfl⟩
theorem merLs_rel {ρ:Nat→Loc}:∀ {ls ls' r:List L} {q:Nat} {v:Nat→Value} {us:List Value},merLs ls ls'=some r→Holds1 ρ ls q v→RelLs ρ (stufLs v q ls') us→RelLs ρ r us
 | [],[],r,q,v,us,h,_,h2=>by simp only [merLs,Option.some.injEq] at h;subst h;exact h2
 | l::ls,l'::ls',r,q,v,us,h,hh,⟨a,b,e,h1,h2⟩=>by
   have hh':Holds1 ρ ls (q + 1) v:=fun k x hk hs=>by
    have:=hh (k + 1) x (by simpa using hk) hs
    rw [show q + 1 + k=q + (k + 1) by omega];exact this
   simp only [merLs] at h
   split at h
   · rename_i s hs
     have ih:=merLs_rel hs hh' h2
     split at h
     · split at h
       · cases h
       · rename_i hsg
         obtain rfl:=Option.some.inj h
         obtain ⟨u,e1,h3⟩:=(relI_one (show isSeg (stufL (v q) .junk)=false from rfl)).1 h1
         have h3:u=v q:=h3 (by simp [stufL])
         refine ⟨a,b,e,(relI_one hsg).2 ⟨u,e1,?_⟩,ih⟩
         have:=hh 0 l (by simp) hsg
         rw [h3];simpa using this
     · obtain rfl:=Option.some.inj h
       exact ⟨a,b,e,stuf_weakL h1,ih⟩
   · cases h
 | [],_::_,_,_,_,_,h,_,_=>by simp [merLs] at h
 | _::_,[],_,_,_,_,h,_,_=>by simp [merLs] at h
theorem merLs_names {m:Nat}:∀ {ls ls' r:List L},merLs ls ls'=some r→m∈lnames r→m∈lnames ls∨m∈lnames ls'
 | [],[],r,h,hm=>by simp only [merLs,Option.some.injEq] at h;subst h;exact .inl hm
 | l::ls,l'::ls',r,h,hm=>by
   simp only [merLs] at h
   split at h
   · rename_i s hs
     split at h
     · split at h
       · cases h
       · obtain rfl:=Option.some.inj h
         simp only [lnames,List.mem_append] at hm ⊢
         rcases hm with hm | hm
         · exact .inl (.inl hm)
         · exact (merLs_names hs hm).imp .inr .inr
     · obtain rfl:=Option.some.inj h
       simp only [lnames,List.mem_append] at hm ⊢
       rcases hm with hm | hm
       · exact .inr (.inl hm)
       · exact (merLs_names hs hm).imp .inr .inr
   · cases h
 | [],_::_,_,h,_=>by simp [merLs] at h
 | _::_,[],_,h,_=>by simp [merLs] at h
theorem merB_names {b b' c:Blk} {m:Nat} (h:merB b b'=some c) (hm:m∈c.names):m∈b.names∨m∈b'.names:=by
 cases b with
 | cells T ls=>
   cases b' with
   | cells T' ls'=>
     simp only [merB] at h
     split at h
     · rename_i r hr
       obtain rfl:=Option.some.inj h
       exact merLs_names hr hm
     · cases h
   | _=>simp [merB] at h
 | _=>simp only [merB,Option.some.injEq] at h;subst h;exact .inr hm
theorem merB_own {b b' c:Blk} (h:merB b b'=some c):c.own=b'.own:=by
 cases b with
 | cells T ls=>
   cases b' with
   | cells T' ls'=>
     simp only [merB] at h
     split at h
     · obtain rfl:=Option.some.inj h;rfl
     · cases h
   | _=>simp [merB] at h
 | _=>simp only [merB,Option.some.injEq] at h;subst h;rfl
theorem merK_eq {hh:List (Nat×Blk)}:∀ (h:List (Nat×Blk)) (k:List (Nat×Blk)→Prop),merK h hh k →
 ∃ h',k h'∧(∀ i,look h i=none→look h' i=none)∧∀ i b,look h i=some b→∃ b' c,look hh i=some b'∧merB b b'=some c∧look h' i=some c
 | [],k,e=>⟨[],e,fun i h=>h,fun i b h=>by simp [look] at h⟩
 | (j,b)::r,k,e=>by
   have e:(match look hh j with
    | some b'=>match merB b b' with
      | some c=>forceB c fun c=>merK r hh fun r=>k ((j,c)::r)
      | none=>Stuck "mer"
    | none=>Stuck "mer"):=e
   split at e
   · rename_i b' hb'
     split at e
     · rename_i c hc
       rw [forceB_eq] at e
       obtain ⟨h',k1,k2,k3⟩:=merK_eq r _ e
       refine ⟨_,k1,fun i hi=> ?_,fun i d hi=> ?_⟩
       · rw [look_eq_beq] at hi ⊢
         split at hi
         · cases hi
         · rename_i hne;rw [if_neg hne];exact k2 i hi
       · rw [look_eq_beq] at hi
         split at hi
         · rename_i he
           subst he
           obtain rfl:=Option.some.inj hi
           exact ⟨b',c,hb',hc,by rw [look_eq_beq,if_pos rfl]⟩
         · rename_i hne
           obtain ⟨b2,c2,q1,q2,q3⟩:=k3 i d hi
           exact ⟨b2,c2,q1,q2,by rw [look_eq_beq,if_neg hne];exact q3⟩
     · cases e
   · cases e
theorem lookU_fill {ns:List Nat} {vs:Nat→Nat→Value} {j:Nat}:∀ (l:List (Nat×Blk)) (d:Blk),lookU (uncUps ns (stufH vs l)) j (some (stufB (vs j) d))=(lookU (uncUps ns l) j (some d)).map (stufB (vs j))
 | [],d=>rfl
 | (k,b)::r,d=>by
   simp only [stufH,uncUps,lookU]
   split
   · rename_i hk
     have:k=j:=by simpa using hk
     subst this
     rw [← stufB_unc];exact lookU_fill r (b.unc ns)
   · exact lookU_fill r d
inductive EntriesO (P:Program) (G:World→Prop):List (Nat×(Mask×SpW))→Prop
 | nil:EntriesO P G []
 | cons {f:Nat} {mk:Mask} {sp:SpW} {l:List (Nat×(Mask×SpW))} (e:EntryO P G f sp) (h:EntriesO P G l):EntriesO P G ((f,(mk,sp))::l)
theorem EntriesO.get:∀ {l:List (Nat×(Mask×SpW))} {f:Nat} {mk:Mask} {sp:SpW},EntriesO P G l→tabO l f=some (mk,sp)→EntryO P G f sp
 | [],_,_,_,_,h=>by cases h
 | (g,x)::l,f,mk,sp,.cons e h,hs=>by
   simp only [tabO] at hs
   split at hs
   · rename_i he
     have:g=f:=by simpa using he
     subst this
     obtain ⟨-,rfl⟩:=Prod.mk.inj (Option.some.inj hs)
     exact e
   · exact EntriesO.get h hs
theorem oInl_sound {ws:List (Nat×(Mask×SpW))} (hw:EntriesO P G ws) {base:FuncId→Nat→List AV→List (Nat×Blk)→(AV→List (Nat×Blk)→Prop)→Prop} (hb:InlOK P G base):InlOK P G (oInl ws base):=by
 intro f tp args h K hK hlt hn
 unfold oInl at hK
 split at hK
 · exact hb f tp args h K hK hlt hn
 · rename_i x hx
   obtain ⟨mk,sp⟩:=x
   dsimp only at hK
   rw [holHK_eq,forceNs_eq] at hK
   generalize reachN (holH mk h) 60 (anames args) []=ns at hK
   split at hK
   · rename_i ch h1 h2 h3 h4
     split at hK
     · rename_i c v ups hs
       obtain ⟨hc,hK⟩:=withC_eq hK
       rw [forceA_eq] at hK
       split at hK
       · rename_i hv
         have he:=hw.get hx
         refine ⟨he.fn,fun b w0 ρ us w hG hb0 hrel H=> ?_⟩
         obtain ⟨hh',k1,k2,k3,k4,k5,k6⟩:=setAllK_eq ups (holH mk h) _ hK
         obtain ⟨h',hk,m1,m2⟩:=merK_eq h _ k1
         obtain ⟨hlen,hch⟩:=chOf_look h4
         have hnd:=distN_spec h3
         have hcl:=closedIn_spec h2
         obtain ⟨vs,hvs⟩:∃ vs:Nat→Nat→Value,∀ i d,look h i=some d→RelB ρ (ρ i) (stufB (vs i) (holB mk d)) w.heap[(ρ i).b]? ∧∀ T ls,d= .cells T ls→Holds1 ρ ls 0 (vs i):=by
          have:∀ i,∃ v:Nat→Value,∀ d,look h i=some d→RelB ρ (ρ i) (stufB v (holB mk d)) w.heap[(ρ i).b]? ∧∀ T ls,d= .cells T ls→Holds1 ρ ls 0 v:=fun i=>by
           cases hi:look h i with
           | none=>exact ⟨fun _=>undef,fun d e=>by cases e⟩
           | some d=>
             have hr:=H.heap i d hi
             cases d with
             | cells T ls=>
               obtain ⟨cs,e,q1,q2⟩:=hr
               obtain ⟨v,g1,g2⟩:=vals_of (mk:=mk T) (q:=0) q2
               refine ⟨v,fun d e2=> ?_⟩
               obtain rfl:=Option.some.inj e2
               exact ⟨⟨cs,e,q1,g2⟩,fun T' ls' e3=>by cases e3;exact g1⟩
             | _=>exact ⟨fun _=>undef,fun d e2=>by obtain rfl:=Option.some.inj e2;exact ⟨hr,fun T ls e3=>by cases e3⟩⟩
          exact ⟨fun i=>Classical.choose (this i),fun i=>Classical.choose_spec (this i)⟩
         have hl:∀ i,look (holH mk h) i=(look h i).map (holB mk):=fun i=>holH_look h i
         have ho:∀ i d1,(look (holH mk h) i).map (stufB (vs i))=some d1→∃ d,look h i=some d∧d1=stufB (vs i) (holB mk d):=fun i d1 hi=>by
          rw [hl] at hi
          cases hd:look h i with
          | none=>rw [hd] at hi;cases hi
          | some d=>rw [hd] at hi;exact ⟨d,rfl,(Option.some.inj hi).symm⟩
         have H1:RelH b w0 ρ (fun i=>(look (holH mk h) i).map (stufB (vs i))) w:=by
          refine ⟨fun i d hi=> ?_,fun i d hi m hm=> ?_,fun i d hi=> ?_,fun i j d d' hi hj hw e=> ?_,H.below,H.base⟩
          · obtain ⟨d0,q1,rfl⟩:=ho i d hi;exact (hvs i d0 q1).1
          · obtain ⟨d0,q1,rfl⟩:=ho i d hi
            rw [stufB_names] at hm
            have:=H.namesH i d0 q1 m (holB_names hm)
            show (look (holH mk h) m).map _≠none
            rw [hl]
            cases e:look h m with
            | none=>exact absurd e this
            | some y=>simp
          · obtain ⟨d0,q1,rfl⟩:=ho i d hi;rw [stufB_own,holB_own];exact H.low i d0 q1
          · obtain ⟨d0,q1,rfl⟩:=ho i d hi
            obtain ⟨d1,q2,rfl⟩:=ho j d' hj
            rw [stufB_own,holB_own] at hw
            exact H.inj i j d0 d1 q1 q2 hw e
         have hns:∀ {m i:Nat},ns[m]? =some i→nthD ns m=i:=fun {m i} hm=>by
          have:=nthD_get (List.getElem?_eq_some_iff.1 hm).1
          rw [hm] at this;exact (Option.some.inj this).symm
         have hsome:∀ {i:Nat} {g:Blk→Blk} {o:Option Blk},o.map g=none→o=none:=fun {i g o} e=>by cases o with | none=>rfl | some y=>cases e
         refine (wcore (hh:=fun i=>(look (holH mk h) i).map (stufB (vs i))) (hh':=fun i=>(look hh' i).map (stufB (vs i))) (subNs_spec h1) (fun i hi=> ?_) hnd (fun m=> ?_) (by rw [stufH_len];exact hlen) hv (fun p hp=> ?_) (fun i d hi=> ?_) (fun i hi=> ?_) (fun i hi=> ?_) (fun _ j i d hj hi=> ?_)
          (he.calls _ _ c v ups hs hc hv (fun k=>vs (nthD ns k))) hG hb0 hrel H1).mono ?_
         · obtain ⟨d,q1,q2⟩:=hcl i hi
           exact ⟨stufB (vs i) d,by show Option.map _ (look (holH mk h) i)=_;rw [q1];rfl,fun m hm=>q2 m (by rw [stufB_names] at hm;exact hm)⟩
         · rw [stufH_look,hch m,if_pos (Nat.zero_le _),Nat.sub_zero]
           cases hm:ns[m]? with
           | none=>rfl
           | some i=>
             dsimp only
             rw [hns hm]
             cases look (holH mk h) i with
             | none=>rfl
             | some d=>exact congrArg some stufB_can
         · obtain ⟨b0,q1,q2⟩:=stufH_mem hp
           obtain ⟨r1,r2,i,c0,r3,r4,r5⟩:=k2 _ q1
           rw [q2,stufB_own,stufB_names]
           exact ⟨r1,r2,i,stufB (vs i) c0,r3,by show Option.map _ (look (holH mk h) i)=_;rw [r4];rfl,by rw [stufB_own];exact r5⟩
         · obtain ⟨d0,q1,rfl⟩:=ho i d hi
           obtain ⟨c',r1,r2⟩:=k3 i (holB mk d0) (by rw [hl,q1];rfl)
           exact ⟨stufB (vs i) c',by show Option.map _ (look hh' i)=_;rw [r1];rfl,by rw [stufB_own,stufB_own];exact r2⟩
         · show Option.map _ (look hh' i)=none
           rw [k4 i (hsome (i:=i) hi)];rfl
         · show Option.map _ (look hh' i)=Option.map _ (look (holH mk h) i)
           rw [k5 i fun p hp e=>hi (p.1,stufB (vs (nthD ns p.1)) p.2) ?_ e]
           have:∀ (l:List (Nat×Blk)),p∈l→(p.1,stufB (vs (nthD ns p.1)) p.2)∈stufH (fun k=>vs (nthD ns k)) l:=fun l=>by
            induction l with
            | nil=>intro h;simp at h
            | cons y ys ih=>
              intro h
              simp only [stufH,List.mem_cons] at h ⊢
              rcases h with rfl | h
              · exact .inl rfl
              · exact .inr (ih h)
           exact this ups hp
         · obtain ⟨d0,q1,rfl⟩:=ho i d hi
           show Option.map _ (look hh' i)=_
           rw [k6 hnd j i (holB mk d0) hj (by rw [hl,q1];rfl)]
           have:=lookU_fill (ns:=ns) (vs:=fun k=>vs (nthD ns k)) (j:=j) ups (holB mk d0)
           rw [hns hj] at this
           exact this.symm
         rintro e w' ⟨u,rfl,hu,H',hsz,hstay,hdom⟩
         have hfin:∀ i c,look h' i=some c→∃ d d',look h i=some d∧look hh' i=some d'∧merB d d'=some c:=fun i c hi=>by
          cases hd:look h i with
          | none=>rw [m1 i hd] at hi;cases hi
          | some d=>
            obtain ⟨d',c',q1,q2,q3⟩:=m2 i d hd
            rw [q3] at hi
            obtain rfl:=Option.some.inj hi
            exact ⟨d,d',rfl,q1,q2⟩
         have hown:∀ i d d' c,look h i=some d→look hh' i=some d'→merB d d'=some c→c.own=d.own:=fun i d d' c q1 q2 q3=>by
          obtain ⟨c',r1,r2⟩:=k3 i (holB mk d) (by rw [hl,q1];rfl)
          rw [q2] at r1
          obtain rfl:=Option.some.inj r1
          rw [merB_own q3,r2,holB_own]
         have hex:∀ m,look h m≠none→look h' m≠none:=fun m hm=>by
          cases hd:look h m with
          | none=>exact absurd hd hm
          | some d=>obtain ⟨_,c',_,_,q3⟩:=m2 m d hd;rw [q3];simp
         refine ⟨v,h',u,ρ,hk,rfl,hu,by rw [hv];simp,⟨fun i c hi=> ?_,fun i c hi m hm=> ?_,fun i c hi=> ?_,fun i j c d hi hj hw e=> ?_,H'.below,H'.base⟩,fun m hm=>⟨hex m hm,rfl⟩,hsz,fun k hk hf=>hstay k hk fun m d hm hw=> ?_,fun m c hm hw hnone=> ?_⟩
         · obtain ⟨d,d',q1,q2,q3⟩:=hfin i c hi
           have hr:RelB ρ (ρ i) (stufB (vs i) d') w'.heap[(ρ i).b]? :=H'.heap i _ (by show Option.map _ (look hh' i)=_;rw [q2];rfl)
           cases d with
           | cells T ls=>
             cases d' with
             | cells T' ls'=>
               simp only [merB] at q3
               split at q3
               · rename_i r hr2
                 obtain rfl:=Option.some.inj q3
                 obtain ⟨cs,e1,e2,e3⟩:=hr
                 exact ⟨cs,e1,e2,merLs_rel hr2 ((hvs i _ q1).2 T ls rfl) e3⟩
               · cases q3
             | _=>simp [merB] at q3
           | _=>
             simp only [merB,Option.some.injEq] at q3
             subst q3
             exact stuf_weak hr
         · obtain ⟨d,d',q1,q2,q3⟩:=hfin i c hi
           rcases merB_names q3 hm with q4 | q4
           · exact hex m (H.namesH i d q1 m q4)
           · have:=H'.namesH i (stufB (vs i) d') (by show Option.map _ (look hh' i)=_;rw [q2];rfl) m (by rw [stufB_names];exact q4)
             refine hex m fun e=>this ?_
             show Option.map _ (look hh' m)=none
             rw [k4 m (by rw [hl,e];rfl)];rfl
         · obtain ⟨d,d',q1,q2,q3⟩:=hfin i c hi
           rw [hown i d d' c q1 q2 q3];exact H.low i d q1
         · obtain ⟨d1,d1',q1,q2,q3⟩:=hfin i c hi
           obtain ⟨d2,d2',r1,r2,r3⟩:=hfin j d hj
           rw [hown i d1 d1' c q1 q2 q3] at hw
           exact H.inj i j d1 d2 q1 r1 hw e
         · obtain ⟨d0,q1,rfl⟩:=ho m d hm
           rw [stufB_own,holB_own] at hw
           exact hf m d0 q1 hw
         · obtain ⟨d,_,q1,_⟩:=hfin m c hm
           rw [q1] at hnone;cases hnone
       · cases hK
     · exact hb f tp args h K hK hlt hn
   · cases hK
theorem EntryO.of_FI {C:Table} (hC:CSound P G C) (hm:P.follows .mixedOrders=true) {f:FuncId} {fn:Func} {sp:SpW} (hf:P.funcs[f]? =some fn)
 (hn:(fn.name== "runtime.NumGoroutine")=false) (hb:fn.body.isNone=false)
 (h:∀ args ch c v ups,sp args ch=some (c,v,ups)→c.holds→∀ vs:Nat→Nat→Value,FI P C fn ch.length args (stufH vs ch) (fun u g=>u=v∧∀ i d,look (stufH vs ch) i=some d→look g i=lookU (stufH vs ups) i (some d))):EntryO P G f sp:=
 ⟨⟨fn,hf,hn,hb⟩,fun args ch c v ups hs hc hv vs=>CallsW.of_FI hC hm hf hv (by rw [stufH_len];exact h args ch c v ups hs hc vs)⟩
end
abbrev SpN:=List AV→List (Nat×Blk)→Option (Cond×AV×List Blk)
def tabN:List (Nat×SpN)→FuncId→Option SpN
 | [],_=>none
 | (g,sp)::r,f=>match Nat.beq g f with
   | true=>some sp
   | false=>tabN r f
def uncVs (ns:List Nat):List (Bool×List L)→List (Bool×List L)
 | []=>[]
 | (b,ls)::r=>(b,uncLs ns ls)::uncVs ns r
def AV.unc (ns:List Nat):AV→AV
 | .one l=> .one (l.unc ns)
 | .agg ls=> .agg (uncLs ns ls)
 | .tup vs=> .tup (uncVs ns vs)
def seqB:List Blk→Nat→List Nat
 | [],_=>[]
 | _::r,k=>k::seqB r (k + 1)
noncomputable def addK (ns:List Nat) (l:List Blk):List Nat→List (Nat×Blk)→(List (Nat×Blk)→Prop)→Prop:=
 List.rec (motive:=fun _=>List Nat→List (Nat×Blk)→(List (Nat×Blk)→Prop)→Prop) (fun _ h k=>k h)
  (fun b _ ih fs h k=>match fs with
    | []=>Stuck "new"
    | n::r=>match b.own,ltNs ns b.names with
      | true,true=>forceB (b.unc ns) fun b=>ih r ((n,b)::h) k
      | _,_=>Stuck "new") l
noncomputable def nInl (ws:List (Nat×SpN)) (base:FuncId→Nat→List AV→List (Nat×Blk)→(AV→List (Nat×Blk)→Prop)→Prop):FuncId→Nat→List AV→List (Nat×Blk)→(AV→List (Nat×Blk)→Prop)→Prop:=
 fun f tp args h K=>match tabN ws f with
  | none=>base f tp args h K
  | some sp=>forceNs (reachN h 60 (anames args) []) fun ns=>match subNs ns (anames args),closedIn h ns ns,distN ns,chOf h ns ns 0 with
    | true,true,true,some ch=>match sp (canAs ns args) ch with
      | some (c,v,fr)=>withC c (forceNs (seqB fr tp) fun fs=>forceNs (ns++fs) fun ms=>match ltNs ms v.names with
        | true=>forceA (v.unc ms) fun v=>addK ms fr fs h fun h'=>K v h'
        | false=>Stuck "new")
      | none=>base f tp args h K
    | _,_,_,_=>Stuck "reach"
def lookN (ch:List (Nat×Blk)) (fr:List Blk) (i:Nat):Option Blk:=match look ch i with
 | some b=>some b
 | none=>if ch.length≤i then fr[i - ch.length]? else none
def CallsN (P:Program) (G:World→Prop) (f:FuncId) (args:List AV) (ch:List (Nat×Blk)) (v:AV) (fr:List Blk):Prop:=
 (∀ m,look ch m≠none→m<ch.length)→(∀ m,m<ch.length→look ch m≠none)→(∀ v∈args,∀ m∈v.names,look ch m≠none) →
   ∀ (b:Nat) (w0:World) (ρ:Nat→Loc) (us:List Value) (w:World),G w0→b=w0.heap.size→RelAs ρ args us→RelH b w0 ρ (look ch) w →
     Calls P f us.toArray w (fun e w'=>∃ u ρ',e= .returned u∧RelA ρ' v u∧RelH b w0 ρ' (lookN ch fr) w'∧(∀ m,look ch m≠none→ρ' m=ρ m)∧w.heap.size≤w'.heap.size ∧
      (∀ k,k<w.heap.size→(∀ m c,look ch m=some c→c.own=true→(ρ m).b≠k)→w'.heap[k]? =w.heap[k]?)∧∀ j c,fr[j]? =some c→w.heap.size≤(ρ' (ch.length + j)).b)
structure EntryN (P:Program) (G:World→Prop) (f:FuncId) (sp:SpN):Prop where
 fn:∃ fn,P.funcs[f]? =some fn∧(fn.name== "runtime.NumGoroutine")=false∧fn.body.isNone=false
 calls:∀ args ch c v fr,sp args ch=some (c,v,fr)→c.holds→CallsN P G f args ch v fr
def outN (ms:List Nat) (g:List (Nat×Blk)):List Nat→List Blk→Prop
 | [],[]=>True
 | m::r,b::s=>look g m=some (b.unc ms)∧outN ms g r s
 | _,_=>False
def OutN (ch:List (Nat×Blk)) (v:AV) (fr:List Blk) (u:AV) (g:List (Nat×Blk)):Prop:=
 ∃ fs:List Nat,distN (List.range ch.length++fs)=true∧ltNs (List.range ch.length++fs) v.names=true∧(∀ b∈fr,b.own=true∧ltNs (List.range ch.length++fs) b.names=true)∧u=v.unc (List.range ch.length++fs)∧(∀ i d,look ch i=some d→look g i=some d)∧outN (List.range ch.length++fs) g fs fr
section
variable {P : Program} {G : World → Prop}
theorem seqB_len:∀ {l:List Blk} {k:Nat},(seqB l k).length=l.length
 | [],_=>rfl
 | _::_,_=>congrArg (· + 1) seqB_len
theorem seqB_get:∀ {l:List Blk} {k j:Nat},j<l.length→(seqB l k)[j]? =some (k + j)
 | [],_,_,h=>by simp at h
 | _::r,k,0,_=>by simp [seqB]
 | _::r,k,j + 1,h=>by
   simp only [seqB,List.getElem?_cons_succ]
   rw [seqB_get (by simpa using h)]
   exact congrArg some (by omega)
theorem seqB_mem {l:List Blk} {k m:Nat} (h:m∈seqB l k):k≤m∧m<k + l.length:=by
 obtain ⟨j,hj,e⟩:=List.mem_iff_getElem.1 h
 have hj':j<l.length:=by rw [seqB_len] at hj;exact hj
 have:=seqB_get (k:=k) hj'
 rw [List.getElem?_eq_getElem hj,e] at this
 have:=Option.some.inj this
 omega
theorem seqB_nodup:∀ {l:List Blk} {k:Nat},(seqB l k).Nodup
 | [],_=>List.nodup_nil
 | _::r,k=>List.nodup_cons.2 ⟨fun h=>by have:=(seqB_mem h).1;omega,seqB_nodup⟩
theorem unc_can_relVs {ρ:Nat→Loc} {ns:List Nat} (hnd:ns.Nodup):∀ {ls:List (Bool×List L)} {vs:List Value},(∀ m∈vnames ls,m<ns.length)→RelVs (locN ρ ns) ls vs→RelVs ρ (uncVs ns ls) vs
 | [],[],_,_=>trivial
 | (true,ls)::r,v::vs,h,⟨⟨cs,e,h1⟩,h2⟩=>by
   have hl:∀ m∈lnames ls,m<ns.length:=fun m hm=>h m (by simp [vnames,hm])
   refine ⟨⟨cs,e,(can_relLs (uncLs_names hl)).1 ?_⟩,unc_can_relVs hnd (fun m hm=>h m (by simp [vnames,hm])) h2⟩
   rw [canLs_unc hnd hl];exact h1
 | (false,[l])::r,v::vs,h,⟨h1,h2⟩=>by
   have hl:∀ m∈l.names,m<ns.length:=fun m hm=>h m (by simp [vnames,lnames,hm])
   refine ⟨(can_relL (unc_names hl)).1 ?_,unc_can_relVs hnd (fun m hm=>h m (by simp [vnames,hm])) h2⟩
   rw [can_unc hnd hl];exact h1
 | [],_::_,_,h=>h.elim
 | (true,_)::_,[],_,h=>h.elim
 | (false,[])::_,[],_,h=>h.elim
 | (false,[])::_,_::_,_,h=>h.elim
 | (false,_::_::_)::_,[],_,h=>h.elim
 | (false,_::_::_)::_,_::_,_,h=>h.elim
 | (false,[_])::_,[],_,h=>h.elim
theorem unc_relA {ρ:Nat→Loc} {ns:List Nat} (hnd:ns.Nodup) {v:AV} {u:Value} (hn:∀ m∈v.names,m<ns.length) (h:RelA (locN ρ ns) v u):RelA ρ (v.unc ns) u:=by
 cases v with
 | one l=>exact (can_relL (unc_names hn)).1 (by rw [can_unc hnd hn];exact h)
 | agg ls=>obtain ⟨cs,e,h⟩:=h;exact ⟨cs,e,(can_relLs (uncLs_names hn)).1 (by rw [canLs_unc hnd hn];exact h)⟩
 | tup vs=>obtain ⟨cs,e,h⟩:=h;exact ⟨cs,e,unc_can_relVs hnd hn h⟩
theorem uncVs_names {ns:List Nat}:∀ {ls:List (Bool×List L)},(∀ m∈vnames ls,m<ns.length)→∀ m∈vnames (uncVs ns ls),m∈ns
 | [],_,m,hm=>by simp [uncVs,vnames] at hm
 | (b,ls)::r,h,m,hm=>by
   simp only [uncVs,vnames,List.mem_append] at hm
   rcases hm with hm | hm
   · exact uncLs_names (fun x hx=>h x (by simp [vnames,hx])) m hm
   · exact uncVs_names (fun x hx=>h x (by simp [vnames,hx])) m hm
theorem uncA_names {ns:List Nat} {v:AV} (h:∀ m∈v.names,m<ns.length):∀ m∈(v.unc ns).names,m∈ns:=by
 cases v with
 | one l=>exact unc_names h
 | agg ls=>exact uncLs_names h
 | tup vs=>exact uncVs_names h
theorem can_relA' {ρ:Nat→Loc} {ns:List Nat} (hnd:ns.Nodup) {v:AV} {u:Value} (hn:∀ m∈v.names,m<ns.length) (h:RelA ρ (v.unc ns) u):RelA (locN ρ ns) v u:=by
 have h2:=can_relA (uncA_names hn) h
 have e:(v.unc ns).can ns=v:=by
  cases v with
  | one l=>exact congrArg AV.one (can_unc hnd hn)
  | agg ls=>exact congrArg AV.agg (canLs_unc hnd hn)
  | tup vs=>
    refine congrArg AV.tup ?_
    have:∀ {ls:List (Bool×List L)},(∀ m∈vnames ls,m<ns.length)→canVs ns (uncVs ns ls)=ls:=fun {ls}=>by
     induction ls with
     | nil=>intro _;rfl
     | cons p r ih=>
       intro h
       obtain ⟨b,l⟩:=p
       simp only [uncVs,canVs]
       rw [canLs_unc hnd (fun x hx=>h x (by simp [vnames,hx])),ih (fun x hx=>h x (by simp [vnames,hx]))]
    exact this hn
 rw [e] at h2;exact h2
theorem addK_eq {ns:List Nat}:∀ (l:List Blk) (fs:List Nat) (h:List (Nat×Blk)) (k:List (Nat×Blk)→Prop),addK ns l fs h k→fs.length=l.length→fs.Nodup→(∀ n∈fs,look h n=none) →
 ∃ h',k h'∧(∀ b∈l,b.own=true∧∀ m∈b.names,m<ns.length)∧(∀ i b,look h i=some b→look h' i=some b)∧(∀ (j:Nat) (b:Blk),l[j]? =some b→∃ n,fs[j]? =some n∧look h' n=some (b.unc ns)) ∧
   ∀ i b,look h' i=some b→look h i=some b∨∃ (j:Nat) (c:Blk),l[j]? =some c∧fs[j]? =some i∧b=c.unc ns
 | [],fs,h,k,e,hl,_,_=>⟨h,e,by simp,fun i b hb=>hb,fun j b hj=>by simp at hj,fun i b hb=> .inl hb⟩
 | b::l,[],h,k,e,hl,_,_=>by simp at hl
 | b::l,n::fs,h,k,e,hl,hnd,hno=>by
   have e:(match b.own,ltNs ns b.names with
    | true,true=>forceB (b.unc ns) fun b=>addK ns l fs ((n,b)::h) k
    | _,_=>Stuck "new"):=e
   split at e
   · rename_i ho hn
     rw [forceB_eq] at e
     obtain ⟨hn1,hn2⟩:=List.nodup_cons.1 hnd
     obtain ⟨h',k1,k2,k3,k4,k5⟩:=addK_eq l fs ((n,b.unc ns)::h) k e (by simpa using hl) hn2 (fun x hx=>by
      rw [look_eq_beq,if_neg (fun q:n=x=>hn1 (by rw [q];exact hx))];exact hno x (by simp [hx]))
     refine ⟨h',k1,fun c hc=> ?_,fun i c hi=>k3 i c ?_,fun j c hj=> ?_,fun i c hi=> ?_⟩
     · rcases List.mem_cons.1 hc with rfl | hc
       · exact ⟨ho,ltNs_spec hn⟩
       · exact k2 c hc
     · rw [look_eq_beq,if_neg (fun q:n=i=>by rw [← q,hno n (by simp)] at hi;cases hi)];exact hi
     · cases j with
       | zero=>
         simp only [List.getElem?_cons_zero,Option.some.injEq] at hj ⊢
         subst hj
         exact ⟨n,rfl,k3 n _ (by rw [look_eq_beq,if_pos rfl])⟩
       | succ j=>
         simp only [List.getElem?_cons_succ] at hj ⊢
         exact k4 j c hj
     · rcases k5 i c hi with q | ⟨j,d,q1,q2,q3⟩
       · rw [look_eq_beq] at q
         split at q
         · rename_i e;subst e;obtain rfl:=Option.some.inj q;exact .inr ⟨0,b,by simp,by simp,rfl⟩
         · exact .inl q
       · exact .inr ⟨j + 1,d,by simpa using q1,by simpa using q2,q3⟩
   · cases e
inductive EntriesN (P:Program) (G:World→Prop):List (Nat×SpN)→Prop
 | nil:EntriesN P G []
 | cons {f:Nat} {sp:SpN} {l:List (Nat×SpN)} (e:EntryN P G f sp) (h:EntriesN P G l):EntriesN P G ((f,sp)::l)
theorem EntriesN.get:∀ {l:List (Nat×SpN)} {f:Nat} {sp:SpN},EntriesN P G l→tabN l f=some sp→EntryN P G f sp
 | [],_,_,_,h=>by cases h
 | (g,s)::l,f,sp,.cons e h,hs=>by
   simp only [tabN] at hs
   split at hs
   · rename_i he
     have:g=f:=by simpa using he
     subst this
     obtain rfl:=Option.some.inj hs
     exact e
   · exact EntriesN.get h hs
theorem nInl_sound {ws:List (Nat×SpN)} (hw:EntriesN P G ws) {base:FuncId→Nat→List AV→List (Nat×Blk)→(AV→List (Nat×Blk)→Prop)→Prop} (hb:InlOK P G base):InlOK P G (nInl ws base):=by
 intro f tp args h K hK hlt hn
 unfold nInl at hK
 split at hK
 · exact hb f tp args h K hK hlt hn
 · rename_i sp hsp
   rw [forceNs_eq] at hK
   generalize reachN h 60 (anames args) []=ns at hK
   split at hK
   · rename_i ch h1 h2 h3 h4
     split at hK
     · rename_i c v fr hs
       obtain ⟨hc,hK⟩:=withC_eq hK
       rw [forceNs_eq,forceNs_eq] at hK
       split at hK
       · rename_i hv
         rw [forceA_eq] at hK
         have hcl:=closedIn_spec h2
         have hnsd:=distN_spec h3
         have hdom:∀ i∈ns,look h i≠none:=fun i hi=>by obtain ⟨b,q,_⟩:=hcl i hi;rw [q];simp
         have hge:∀ m,tp≤m→look h m=none:=fun m hm=>by
          cases q:look h m with
          | none=>rfl
          | some b=>have:=hlt m (by rw [q];simp);omega
         obtain ⟨h',hk,a1,a2,a3,a4⟩:=addK_eq fr (seqB fr tp) h _ hK seqB_len seqB_nodup (fun n hn=>hge n (seqB_mem hn).1)
         have he:=hw.get hsp
         refine ⟨he.fn,fun b w0 ρ us w hG hb0 hrel H=> ?_⟩
         obtain ⟨HC,c1,c2⟩:=canH h2 h3 h4 H
         obtain ⟨hlen,hch⟩:=chOf_look h4
         have hch':∀ m,look ch m=match ns[m]? with | some i=>(look h i).map (Blk.can ns) | none=>none:=fun m=>by rw [hch m,if_pos (Nat.zero_le _),Nat.sub_zero];cases ns[m]? <;>rfl
         have hput:∀ m i d0,ns[m]? =some i→look h i=some d0→look ch m=some (d0.can ns):=fun m i d0 hi hd=>by rw [hch',hi];show Option.map _ (look h i)=_;rw [hd];rfl
         have hfull:∀ m,m<ch.length→look ch m≠none:=fun m hm=>by
          rw [hlen] at hm
          have g1:=nthD_get hm
          obtain ⟨d0,q3,_⟩:=hcl _ (List.mem_of_getElem? g1)
          rw [hput m _ d0 g1 q3];simp
         have hin:=subNs_spec h1
         have hargs:∀ x∈canAs ns args,∀ m∈x.names,look ch m≠none:=fun x hx m hm=>by
          obtain ⟨y,y1,rfl⟩:=canAs_mem hx
          obtain ⟨i,i1,rfl⟩:=can_namesA hm
          exact c2 i (hin i (anames_mem.2 ⟨y,y1,i1⟩))
         refine (he.calls _ _ c v fr hs hc c1 hfull hargs b w0 (locN ρ ns) us w hG hb0 (can_relAs hin hrel) HC).mono ?_
         rintro e w' ⟨u,ρ',rfl,hu,H',hkeep,hsz,hstay,hfar⟩
         have hnslt:∀ i∈ns,i<tp:=fun i hi=>hlt i (hdom i hi)
         have hmsd:(ns++seqB fr tp).Nodup:=by
          refine List.nodup_append.2 ⟨hnsd,seqB_nodup,fun a ha b hb e=> ?_⟩
          have:=hnslt a ha
          have:=(seqB_mem hb).1
          omega
         have hms:∀ m,m<ns.length→(ns++seqB fr tp)[m]? =ns[m]? :=fun m hm=>List.getElem?_append_left hm
         have hmf:∀ j,j<fr.length→(ns++seqB fr tp)[ns.length + j]? =some (tp + j):=fun j hj=>by
          rw [List.getElem?_append_right (by omega),Nat.add_sub_cancel_left,seqB_get hj]
         have hmlen:(ns++seqB fr tp).length=ns.length + fr.length:=by rw [List.length_append,seqB_len]
         let σ:Nat→Loc:=fun m=>if m<tp then ρ m else ρ' (ch.length + (m - tp))
         have σo:∀ m,look h m≠none→σ m=ρ m:=fun m hm=>if_pos (hlt m hm)
         have hloc:∀ m,m<ns.length + fr.length→locN σ (ns++seqB fr tp) m=ρ' m:=fun m hm=>by
          by_cases hm1:m<ns.length
          · have g1:=nthD_get hm1
            have g2:=hdom _ (List.mem_of_getElem? g1)
            rw [locN,hms m hm1,g1]
            show σ _=_
            rw [σo _ g2,hkeep m (hfull m (by rw [hlen];exact hm1)),locN,g1]
          · rw [show m=ns.length + (m - ns.length) by omega,locN,hmf _ (by omega)]
            show σ _=_
            show (if tp + (m - ns.length)<tp then _ else _)=_
            rw [if_neg (by omega),Nat.add_sub_cancel_left,hlen]
         have hfr:∀ {j c},fr[j]? =some c→j<fr.length:=fun {j c} hj=>(List.getElem?_eq_some_iff.1 hj).1
         have hN:∀ j c,fr[j]? =some c→lookN ch fr (ch.length + j)=some c:=fun j c hj=>by
          have:look ch (ch.length + j)=none:=by
           cases q:look ch (ch.length + j) with
           | none=>rfl
           | some x=>have:=c1 _ (by rw [q];simp);omega
          rw [lookN,this]
          show (if ch.length≤ch.length + j then _ else _)=_
          rw [if_pos (by omega),Nat.add_sub_cancel_left,hj]
         have hO:∀ m d,look ch m=some d→lookN ch fr m=some d:=fun m d hm=>by rw [lookN,hm]
         have hσf:∀ j,σ (tp + j)=ρ' (ch.length + j):=fun j=>by show (if tp + j<tp then _ else _)=_;rw [if_neg (by omega),Nat.add_sub_cancel_left]
         have hbs:∀ i d,look h i=some d→(ρ i).b<w.heap.size:=fun i d hi=>by
          have:=relB_some (H.heap i d hi)
          cases ho:w.heap[(ρ i).b]? with
          | none=>exact absurd ho this
          | some o=>exact (Array.getElem?_eq_some_iff.1 ho).1
         have hcase:∀ i d,look h' i=some d→look h i=some d∨∃ (j:Nat) (c:Blk),fr[j]? =some c∧i=tp + j∧d=c.unc (ns++seqB fr tp):=fun i d hi=>by
          rcases a4 i d hi with q | ⟨j,c,q1,q2,q3⟩
          · exact .inl q
          · rw [seqB_get (hfr q1)] at q2
            exact .inr ⟨j,c,q1,(Option.some.inj q2).symm,q3⟩
         have hres:∀ k,k<w.heap.size→(∀ m c,look h m=some c→c.own=true→(ρ m).b≠k)→w'.heap[k]? =w.heap[k]? :=fun k hk' hf=>hstay k hk' fun m c hm ho=>by
          rw [hch'] at hm
          cases hi:ns[m]? with
          | none=>rw [hi] at hm;cases hm
          | some i=>
            rw [hi] at hm
            obtain ⟨d0,q1,q2⟩:=Option.map_eq_some_iff.1 hm
            rw [locN,hi]
            rw [← q2,can_own] at ho
            exact hf i d0 q1 ho
         have hnew:∀ m∈ns++seqB fr tp,look h' m≠none:=fun m hm=>by
          rcases List.mem_append.1 hm with q | q
          · cases e:look h m with
            | none=>exact absurd e (hdom m q)
            | some x=>rw [a2 m x e];simp
          · obtain ⟨j,hj,e⟩:=List.mem_iff_getElem.1 q
            have hj':j<fr.length:=by rw [seqB_len] at hj;exact hj
            obtain ⟨n,n1,n2⟩:=a3 j fr[j] (List.getElem?_eq_getElem hj')
            rw [List.getElem?_eq_getElem hj,e] at n1
            obtain rfl:=Option.some.inj n1
            rw [n2];simp
         have hvn:=ltNs_spec hv
         refine ⟨_,h',u,σ,hk,rfl,unc_relA hmsd hvn (relA_agree hu fun m hm=>hloc m (by rw [← hmlen];exact hvn m hm)),fun m hm=>hnew m (uncA_names hvn m hm),⟨fun i d hi=> ?_,fun i d hi m hm=> ?_,fun i d hi=> ?_,fun i j d d' hi hj ho e=> ?_,H'.below,H'.base⟩,fun m hm=>⟨?_,σo m hm⟩,hsz,hres,fun m d hm ho hnone=> ?_⟩
         · rcases hcase i d hi with q | ⟨j,c,q1,rfl,rfl⟩
           · rw [σo i (by rw [q];simp)]
             refine relB_agree (ρ:=ρ) ?_ fun m hm=>σo m (H.namesH i d q m hm)
             by_cases hmem:i∈ns
             · obtain ⟨p,q1,q2⟩:=posN_get (k:=0) hmem
               obtain ⟨b',q3,q4⟩:=hcl i hmem
               rw [q] at q3
               obtain rfl:=Option.some.inj q3
               have hp:=hput p i d q2 q
               have hpl:ρ' p=ρ i:=by rw [hkeep p (by rw [hp];simp),locN,q2]
               have:=H'.heap p _ (hO p _ hp)
               rw [hpl] at this
               refine (can_relB q4).1 (relB_agree this fun m hm=> ?_)
               obtain ⟨y,y1,rfl⟩:=can_namesB hm
               exact (hkeep _ (c2 y (q4 y y1))).symm
             · have hst:w'.heap[(ρ i).b]? =w.heap[(ρ i).b]? :=hstay _ (hbs i d q) fun m c hm ho e=>by
                rw [hch'] at hm
                cases hi':ns[m]? with
                | none=>rw [hi'] at hm;cases hm
                | some x=>
                  rw [hi'] at hm
                  obtain ⟨d0,r1,r2⟩:=Option.map_eq_some_iff.1 hm
                  rw [locN,hi'] at e
                  rw [← r2,can_own] at ho
                  have:=H.inj x i d0 d r1 q ho e
                  subst this
                  exact hmem (List.mem_of_getElem? hi')
               rw [hst];exact H.heap i d q
           · rw [hσf]
             have hc:=(a1 c (List.mem_of_getElem? q1)).2
             refine (can_relB (uncB_names hc)).1 ?_
             rw [canB_unc hmsd hc]
             exact relB_agree (H'.heap _ _ (hN j c q1)) fun m hm=>hloc m (by rw [← hmlen];exact hc m hm)
         · rcases hcase i d hi with q | ⟨j,c,q1,rfl,rfl⟩
           · have:=H.namesH i d q m hm
             cases e:look h m with
             | none=>exact absurd e this
             | some x=>rw [a2 m x e];simp
           · exact hnew m (uncB_names (a1 c (List.mem_of_getElem? q1)).2 m hm)
         · rcases hcase i d hi with q | ⟨j,c,q1,rfl,rfl⟩
           · rw [σo i (by rw [q];simp)];exact H.low i d q
           · rw [hσf,unc_own];exact H'.low _ _ (hN j c q1)
         · rcases hcase i d hi with q | ⟨p,c,q1,rfl,rfl⟩
           · rcases hcase j d' hj with r | ⟨p',c',r1,rfl,rfl⟩
             · rw [σo i (by rw [q];simp),σo j (by rw [r];simp)] at e
               exact H.inj i j d d' q r ho e
             · rw [σo i (by rw [q];simp),hσf] at e
               have:=hbs i d q
               have:=hfar p' c' r1
               omega
           · rcases hcase j d' hj with r | ⟨p',c',r1,rfl,rfl⟩
             · rw [σo j (by rw [r];simp),hσf] at e
               have:=hbs j d' r
               have:=hfar p c q1
               omega
             · rw [hσf,hσf] at e
               rw [unc_own] at ho
               have:=H'.inj _ _ c c' (hN p c q1) (hN p' c' r1) ho e
               omega
         · cases e:look h m with
           | none=>exact absurd e hm
           | some x=>rw [a2 m x e];simp
         · rcases hcase m d hm with q | ⟨p,c,q1,rfl,rfl⟩
           · rw [hnone] at q;cases q
           · rw [hσf];exact hfar p c q1
       · cases hK
     · exact hb f tp args h K hK hlt hn
   · cases hK
theorem outN_get {ms:List Nat} {g:List (Nat×Blk)}:∀ {fs:List Nat} {fr:List Blk},outN ms g fs fr→fs.length=fr.length∧∀ (j:Nat) (b:Blk),fr[j]? =some b→∃ n,fs[j]? =some n∧look g n=some (b.unc ms)
 | [],[],_=>⟨rfl,fun j b hj=>by simp at hj⟩
 | m::r,b::s,⟨h1,h2⟩=>by
   obtain ⟨g1,g2⟩:=outN_get h2
   refine ⟨congrArg (· + 1) g1,fun j c hj=> ?_⟩
   cases j with
   | zero=>
     simp only [List.getElem?_cons_zero,Option.some.injEq] at hj ⊢
     subst hj;exact ⟨m,rfl,h1⟩
   | succ j=>
     simp only [List.getElem?_cons_succ] at hj ⊢
     exact g2 j c hj
 | [],_::_,h=>h.elim
 | _::_,[],h=>h.elim
theorem EntryN.of_FI {C:Table} (hC:CSound P G C) (hm:P.follows .mixedOrders=true) {f:FuncId} {fn:Func} {sp:SpN} (hf:P.funcs[f]? =some fn)
 (hn:(fn.name== "runtime.NumGoroutine")=false) (hb:fn.body.isNone=false)
 (h:∀ args ch c v fr,sp args ch=some (c,v,fr)→c.holds→FI P C fn ch.length args ch (OutN ch v fr)):EntryN P G f sp:=by
 refine ⟨⟨fn,hf,hn,hb⟩,fun args ch c v fr hs hc hlt hfull hna b w0 ρ us w hG hb0 hrel H=> ?_⟩
 refine (FI_sound hC hm hf (h args ch c v fr hs hc) hlt hna b w0 ρ us w hG hb0 hrel H).mono ?_
 rintro e w' ⟨v',g,u,ρ',⟨fs,d1,d2,d3,rfl,d5,d6⟩,rfl,hr,-,H',hk,hgr,hst,hfar⟩
 have hnd:=distN_spec d1
 obtain ⟨o1,o2⟩:=outN_get d6
 have hvn:=ltNs_spec d2
 have hlenm:(List.range ch.length++fs).length=ch.length + fr.length:=by rw [List.length_append,List.length_range,o1]
 have hlo:∀ m,m<ch.length→locN ρ' (List.range ch.length++fs) m=ρ' m:=fun m hm=>by
  rw [locN,List.getElem?_append_left (by simpa using hm),List.getElem?_range hm]
 have hlf:∀ j n,fs[j]? =some n→locN ρ' (List.range ch.length++fs) (ch.length + j)=ρ' n:=fun j n hj=>by
  rw [locN,List.getElem?_append_right (by simp),List.length_range,Nat.add_sub_cancel_left,hj]
 have hcase:∀ i d,lookN ch fr i=some d→(look ch i=some d)∨∃ j:Nat,fr[j]? =some d∧i=ch.length + j:=fun i d hi=>by
  rw [lookN] at hi
  split at hi
  · rename_i b' hb';obtain rfl:=Option.some.inj hi;exact .inl hb'
  · split at hi
    · exact .inr ⟨i - ch.length,hi,by omega⟩
    · cases hi
 have hfr:∀ (j:Nat) (d:Blk),fr[j]? =some d→∃ n,fs[j]? =some n∧look g n=some (d.unc (List.range ch.length++fs))∧look ch n=none:=fun j d hj=>by
  obtain ⟨n,n1,n2⟩:=o2 j d hj
  refine ⟨n,n1,n2,?_⟩
  cases q:look ch n with
  | none=>rfl
  | some x=>
    have hn1:=hlt n (by rw [q];simp)
    have:=(List.nodup_append.1 hnd).2.2 n (by simpa using hn1) n (List.mem_of_getElem? n1)
    exact absurd rfl this
 have hlook:∀ m,m<ch.length + fr.length→lookN ch fr m≠none:=fun m hm=>by
  rw [lookN]
  split
  · simp
  · rename_i q
    by_cases hm1:m<ch.length
    · exact absurd q (hfull m hm1)
    · rw [if_pos (by omega),List.getElem?_eq_getElem (by omega)];simp
 have hng:∀ x,x∈List.range ch.length→ρ' x=ρ x:=fun x hx=>(hk x (hfull x (by simpa using hx))).2
 refine ⟨u,locN ρ' (List.range ch.length++fs),rfl,can_relA' hnd hvn hr,⟨fun i d hi=> ?_,fun i d hi m hm=> ?_,fun i d hi=> ?_,fun i j d d' hi hj ho e=> ?_,H'.below,H'.base⟩,fun m hm=> ?_,hgr,hst,fun j c hj=> ?_⟩
 · rcases hcase i d hi with q | ⟨j,q,rfl⟩
   · have hi1:=hlt i (by rw [q];simp)
     rw [hlo i hi1]
     exact relB_agree (H'.heap i d (d5 i d q)) fun m hm=>hlo m (hlt m (H.namesH i d q m hm))
   · obtain ⟨n,n1,n2,_⟩:=hfr j d q
     rw [hlf j n n1]
     have hdn:=ltNs_spec (d3 d (List.mem_of_getElem? q)).2
     have:=(can_relB (ns:=List.range ch.length++fs) (uncB_names hdn)).2 (H'.heap n _ n2)
     rw [canB_unc hnd hdn] at this
     exact this
 · refine hlook m ?_
   rcases hcase i d hi with q | ⟨j,q,rfl⟩
   · have:=hlt m (H.namesH i d q m hm);omega
   · rw [← hlenm];exact ltNs_spec (d3 d (List.mem_of_getElem? q)).2 m hm
 · rcases hcase i d hi with q | ⟨j,q,rfl⟩
   · rw [hlo i (hlt i (by rw [q];simp))];exact H'.low i d (d5 i d q)
   · obtain ⟨n,n1,n2,_⟩:=hfr j d q
     rw [hlf j n n1,← unc_own];exact H'.low n _ n2
 · rcases hcase i d hi with q | ⟨p,q,rfl⟩
   · rw [hlo i (hlt i (by rw [q];simp))] at e
     rcases hcase j d' hj with r | ⟨p',r,rfl⟩
     · rw [hlo j (hlt j (by rw [r];simp))] at e
       exact H'.inj i j d d' (d5 i d q) (d5 j d' r) ho e
     · obtain ⟨n,n1,n2,n3⟩:=hfr p' d' r
       rw [hlf p' n n1] at e
       have:=H'.inj i n d _ (d5 i d q) n2 ho e
       subst this
       rw [q] at n3;cases n3
   · obtain ⟨n,n1,n2,n3⟩:=hfr p d q
     rw [hlf p n n1] at e
     rcases hcase j d' hj with r | ⟨p',r,rfl⟩
     · rw [hlo j (hlt j (by rw [r];simp))] at e
       have:=H'.inj n j _ d' n2 (d5 j d' r) (by rw [unc_own];exact ho) e
       subst this
       rw [r] at n3;cases n3
     · obtain ⟨n',m1,m2,m3⟩:=hfr p' d' r
       rw [hlf p' n' m1] at e
       have:=H'.inj n n' _ _ n2 m2 (by rw [unc_own];exact ho) e
       subst this
       have:p=p':=nodup_inj (List.nodup_append.1 hnd).2.1 n1 m1
       omega
 · rw [hlo m (hlt m hm)];exact (hk m hm).2
 · obtain ⟨n,n1,n2,n3⟩:=hfr j c hj
   rw [hlf j n n1]
   exact hfar n _ n2 (by rw [unc_own];exact (d3 c (List.mem_of_getElem? hj)).1) n3
theorem EntryN.of_FIs (hm:P.follows .mixedOrders=true) {f:FuncId} {fn:Func} {sp:SpN} (hf:P.funcs[f]? =some fn) (hn:(fn.name== "runtime.NumGoroutine")=false) (hb:fn.body.isNone=false)
 (h:∀ args ch c v fr,sp args ch=some (c,v,fr)→c.holds→∃ C:Table,CSound P G C∧FI P C fn ch.length args ch (OutN ch v fr)):EntryN P G f sp:=
 ⟨⟨fn,hf,hn,hb⟩,fun args ch c v fr hs hc=>by
   obtain ⟨C,hC,hF⟩:=h args ch c v fr hs hc
   classical
   exact (EntryN.of_FI (sp:=fun a b=>if a=args∧b=ch then some (.t,v,fr) else none) hC hm hf hn hb (fun a b c' v' fr' h1 _=>by
    split at h1
    · rename_i e
      obtain ⟨rfl,rfl⟩:=e
      simp only [Option.some.injEq,Prod.mk.injEq] at h1
      obtain ⟨-,rfl,rfl⟩:=h1
      exact hF
    · cases h1)).calls args ch .t v fr (if_pos ⟨rfl,rfl⟩) trivial⟩
def spDN (sp:SpN):SpK:=fun args bs=>match roDs bs,fstsN bs with
 | ro,ns=>match subNs ns (anames args),closedIn ro ns ns,distN ns,chOf ro ns ns 0 with
   | true,true,true,some ch=>match sp (canAs ns args) ch with
     | some (c,.one (.rsl m k),[b])=>match b.own,b.names,Nat.beq m ch.length with
       | true,[],true=>some (c,b,.r k)
       | _,_,_=>none
     | _=>none
   | _,_,_,_=>none
theorem EntryK.of_N {f:FuncId} {sp:SpN} (he:EntryN P G f sp):EntryK P G f (spDN sp):=by
 refine ⟨he.fn,fun args bs c b nv hs hc=> ?_⟩
 unfold spDN at hs
 dsimp only at hs
 generalize hns:fstsN bs=ns at hs
 split at hs
 · rename_i ch h1 h2 h3 h4
   split at hs
   · rename_i c' m k b' hsp
     split at hs
     · rename_i ho hb hm
       simp only [Option.some.injEq,Prod.mk.injEq] at hs
       obtain ⟨rfl,rfl,rfl⟩:=hs
       have hm':m=ch.length:=by simpa using hm
       subst hm'
       refine ⟨ho,hb,fun us ρ hrel w hG hB hl=> ?_⟩
       have hcl:=closedIn_spec h2
       have H:RelH w.heap.size w ρ (look (roDs bs)) w:=by
        refine ⟨fun i d hi=> ?_,fun i d hi m hm=> ?_,fun i d hi=> ?_,fun i j d d' hi hj ho e=> ?_,Below.refl _ _,Nat.le_refl _⟩
        · obtain ⟨b,q1,rfl⟩:=roDs_look hi
          exact roD_rel (hB _ q1)
        · obtain ⟨b,q1,rfl⟩:=roDs_look hi
          obtain ⟨d0,q2,q3⟩:=hcl i (by rw [← hns];exact fsts_mem q1)
          rw [hi] at q2
          obtain rfl:=Option.some.inj q2
          obtain ⟨d1,q4,-⟩:=hcl m (q3 m hm)
          rw [q4];simp
        · obtain ⟨b,q1,rfl⟩:=roDs_look hi
          exact ⟨fun e=>(by rw [roD_own] at e;cases e),fun _=>hl _ q1⟩
        · obtain ⟨b,q1,rfl⟩:=roDs_look hi
          rw [roD_own] at ho;cases ho
       obtain ⟨HC,hlen,hpos⟩:=canH h2 h3 h4 H
       have hin:=subNs_spec h1
       obtain ⟨hl4,hch⟩:=chOf_look h4
       have hfull:∀ m,m<ch.length→look ch m≠none:=fun m hm=>by
        rw [hl4] at hm
        have g1:=nthD_get hm
        obtain ⟨d0,q3,_⟩:=hcl _ (List.mem_of_getElem? g1)
        rw [hch m,if_pos (Nat.zero_le _),Nat.sub_zero,g1]
        show Option.map _ (look (roDs bs) _)≠none
        rw [q3];simp
       refine (he.calls (canAs ns args) ch c' _ [b'] hsp hc hlen hfull (fun x hx m hm=> ?_) w.heap.size w (locN ρ ns) us w hG rfl (can_relAs hin hrel) HC).mono ?_
       · obtain ⟨y,y1,rfl⟩:=canAs_mem hx
         obtain ⟨i,i1,rfl⟩:=can_namesA hm
         exact hpos i (hin i (anames_mem.2 ⟨y,y1,i1⟩))
       · rintro e w' ⟨u,ρ',rfl,hu,H',-,hsz,hfr,hfar⟩
         have hN:lookN ch [b'] ch.length=some b':=by
          have:look ch ch.length=none:=by
           cases q:look ch ch.length with
           | none=>rfl
           | some x=>have:=hlen _ (by rw [q];simp);omega
          rw [lookN,this]
          show (if ch.length≤ch.length then _ else _)=_
          rw [if_pos (Nat.le_refl _),Nat.sub_self];rfl
         refine ⟨u,ρ' ch.length,rfl,nv_of (nv:= .r k) hu,?_,by simpa using hfar 0 b' rfl,H'.below⟩
         exact relB_agree (H'.heap _ _ hN) (by rw [hb];simp)
     · cases hs
   · cases hs
 · cases hs
end
end Go.Ep
namespace Go.Proofs.YthkgakelgdncjaaDoor
open Go.Ep Go.RowKit
set_option linter.unusedVariables false
set_option linter.unusedSimpArgs false
noncomputable abbrev FSn1:List (Nat×Func):=[(29,Tryd.f29)]
theorem fs_n1:FsOK Tryd.prog FSn1:=(FsOK.cons Tryd.func29 (by kernel_rfl) (by kernel_rfl) FsOK.nil)
noncomputable abbrev C_n1a:Table:=⟨(tabM noData [(56,sp_base)] []).fn,noData.glob,noData.look,fun _ _ _ _ _=>Stuck "call",.sym,0,0,[],fun _ _ _=>none,[]⟩
theorem C_n1a_ok:CSound Tryd.prog anyWorld C_n1a:=CSound.startM (CSound.start.cons e_base)
noncomputable abbrev C_n1:Table:=⟨C_n1a.fn,C_n1a.glob,C_n1a.look,inlN Tryd.prog C_n1a FSn1 2,.sym,0,0,[1000000],C_n1a.mkr,[]⟩
theorem C_n1_ok:CSound Tryd.prog anyWorld C_n1:=C_n1a_ok.inl' (inlN_sound C_n1a_ok (by kernel_rfl) fs_n1 2) .sym 0 0 [1000000] []
inductive Seen (u:AV) (g:List (Nat×Blk)):Prop
 | mk
theorem beq_n0 {n:Nat} (h:n≠0):n.beq 0=false:=by
 cases n with
 | zero=>exact absurd rfl h
 | succ n=>rfl
theorem byt8 (v:BitVec 64):(bytV v 8#64).size=8:=byt_sz v (by decide)
theorem slt_no {c:BitVec 64} {n:Nat} (hc:c.toInt=(c.toNat:Int)) (h:n≤c.toNat) (h2:c.toNat<2 ^ 63):c.slt (BitVec.ofNat 64 n)=false:=by
 rw [BitVec.slt_eq_decide,hc,BitVec.toInt_eq_toNat_cond,BitVec.toNat_ofNat,Nat.mod_eq_of_lt (by omega),if_pos (by omega)]
 exact decide_eq_false (by omega)
theorem slt_100 {n:Nat} (h:n≤100):(100#64).slt (BitVec.ofNat 64 n)=false:=slt_no rfl h (by decide)
theorem slt_200 {n:Nat} (h:n≤100):(200#64).slt (BitVec.ofNat 64 n)=false:=slt_no rfl (by show n≤200;omega) (by decide)
def jR (n:Nat) (a b:RT):RT:=fun j=>⟨if n≤j then (b (j - n)).b else (a j).b,if n≤j then (b (j - n)).d else (a j).d,if n≤j then (b (j - n)).w else (a j).w⟩
def oR (b:BitVec 64) (d:ByteArray) (w:Bool):RT:=fun _=>⟨b,d,w⟩
def zB (n:Nat):ByteArray:=rowStr n fun _=>[.b8 false 0#8]
theorem zB_size (n:Nat):(zB n).size=n:=by
 show ((List.range n).map _).toArray.size=n
 simp
theorem rs_size (n:Nat):(rowStr n fun _=>[.b8 false 0#8]).size=n:=zB_size n
theorem pk_nil {pk:ByteArray} (h:pk.size≠0):decide (pk={ data:=#[] })=false:=decide_eq_false fun e=>h (by rw [e];rfl)
theorem pk_0 {n:Nat} (h:n≤100) (h0:n≠0):(BitVec.ofNat 64 n==0#64)=false:=by
 rw [beq_eq_false_iff_ne]
 intro e
 have:=congrArg BitVec.toNat e
 rw [BitVec.toNat_ofNat,Nat.mod_eq_of_lt (by omega)] at this
 exact h0 this
theorem pk_n {n:Nat} (h:n≤100):(BitVec.ofNat 64 n).toNat=n:=by rw [BitVec.toNat_ofNat,Nat.mod_eq_of_lt (by omega)]
theorem pk_m {n:Nat} (h:n≤100):(18446744073709551615#64 - BitVec.ofNat 64 n).ult 196608#64=false:=by
 rw [BitVec.ult_eq_decide,BitVec.toNat_sub,pk_n h]
 exact decide_eq_false (by show ¬ (2 ^ 64 - n + 18446744073709551615) % 2 ^ 64<196608;omega)
theorem pk_u {n:Nat} {c:BitVec 64} (h:n≤100) (hc:196708≤c.toNat):(196608#64 + BitVec.ofNat 64 n).ule c=true:=by
 rw [BitVec.ule_eq_decide,BitVec.toNat_add,pk_n h]
 exact decide_eq_true (by show (196608 + n) % 2 ^ 64≤c.toNat;omega)
theorem pk_1 {n:Nat} (h:n≤100):(196608#64 + BitVec.ofNat 64 n).ule 262144#64=true:=pk_u h (by decide)
theorem pk_2 {n:Nat} (h:n≤100):(196608#64 + BitVec.ofNat 64 n).ule 1048576#64=true:=pk_u h (by decide)
theorem pk_3 {n:Nat} (h:n≤100):(196608#64 + BitVec.ofNat 64 n).ule 1114112#64=true:=pk_u h (by decide)
def mapF1:Nat→List PL:=fun _=>[.b64 true 1#64,.b64 true 4#64,.b64 true 16#64,.b64 true 2#64]
def mapF2:Nat→List PL:=fun k=>match takeP (dropP [.b64 true 1#64,.b64 true 4#64,.b64 true 16#64,.b64 true 2#64,.b64 true 2#64,.b64 true 8#64,.b64 true 8#64,.b64 true 3#64] (4*bndK k 1)) 4 with
 | some r=>r
 | none=>[]
def mapL:List L:=[.seg 4 2 mapF2]
def g0:RT:=oR 1048576#64 (zB 32) true
def g1:RT:=oR 1114112#64 (zB 24) true
theorem look_2 {b e d:Blk} {i:Nat} (h:Ep.look [(0,b)] i=some d):Ep.look [(34,e),(0,b)] i=some d:=by
 rcases i with _ | i
 · exact h
 · have h':(none:Option Blk)=some d:=h
   cases h'
set_option maxRecDepth 100000 in
set_option maxHeartbeats 16000000 in
theorem Reg_1 (TM:TypeId) :
 FI Tryd.prog C_n1 Tryd.f32 1 [.one (.rsl 0 1)] [(0,.ro TM mapL)] (OutN [(0,.ro TM mapL)] (.one (.rsl 1 1)) [.row 76 3 1 (rgF g0)]):=by
 repeat' (first
  | (with_reducible refine Given.ok (by decide) ?_)
  | (with_reducible apply Given.mk;intro h;(try simp only [if_true,if_false,Bool.false_eq_true,Bool.true_and,Bool.false_and,Bool.and_true,Bool.and_false,Bool.true_or,Bool.or_true,Bool.false_or,Bool.or_false,reduceIte,bne_self_eq_false,Bool.not_true,Bool.not_false,Bool.true_beq,Bool.false_beq] at h);(try exact absurd h (by decide)))
  | ((conv=>whnf);first
    | with_reducible apply Both.mk
    | refine LoopP.times 4 ?_))
 all_goals first
  | ((with_reducible apply Ob.mk);first | omega | (simp only [byt8,catB_size,rs_size];omega) | (simp only [byt8,catB_size,rs_size];exact ⟨by omega,by omega⟩) | (simp only [byt8,catB_size,rs_size,jR,g0,g1,oR,zB,Nat.reduceAdd,Nat.reduceLeDiff,Nat.reduceSub,BitVec.reduceAdd,BitVec.reduceToNat,if_true,if_false,reduceIte];exact ⟨by omega,by omega⟩) | (simp only [byt8,catB_size,rs_size];exact ⟨by decide,by omega⟩) | (simp only [byt8,catB_size,rs_size];exact ⟨by omega,by decide⟩) | (simp only [byt8,catB_size,rs_size];exact ⟨by decide,by decide⟩) | exact fun _=>rfl | exact ⟨fun _=>rfl,hd0⟩ | exact ⟨fun _=>rfl,by decide⟩ | exact ⟨(fun j=>by rcases j with _ | _ | j<;>rfl),by decide⟩ | exact ⟨rfl,fun _=>rfl,fun _=>rfl⟩ | ((show (_:List L)=mapL);kernel_rfl) | ((show innerB _ _=true);kernel_rfl) | ((show (_:Ep.S)=_);kernel_rfl) | exact (fun j=>by rcases j with _ | _ | j<;>rfl) | decide | ((show Region.preF _ _=true);kernel_rfl) | ((show Region.tailB _ _=true);kernel_rfl) | ((show Region.lexB _ _=true);kernel_rfl))
  | (with_reducible apply Ob.mk)
  | ((conv=>whnf);exact ⟨[34],rfl,rfl,fun b hb=>(by simp only [List.mem_singleton] at hb;subst hb;exact ⟨rfl,rfl⟩),rfl,fun _ _ h=>look_2 h,by kernel_rfl,trivial⟩)
  | ((conv=>whnf);skip)
set_option maxRecDepth 100000 in
set_option maxHeartbeats 16000000 in
theorem Reg_2 (TM:TypeId) :
 FI Tryd.prog C_n1 Tryd.f32 1 [.one (.rsl 0 2)] [(0,.ro TM mapL)] (OutN [(0,.ro TM mapL)] (.one (.rsl 1 2)) [.row 76 3 2 (rgF (jR 1 g0 g1))]):=by
 repeat' (first
  | (with_reducible refine Given.ok (by decide) ?_)
  | (with_reducible apply Given.mk;intro h;(try simp only [if_true,if_false,Bool.false_eq_true,Bool.true_and,Bool.false_and,Bool.and_true,Bool.and_false,Bool.true_or,Bool.or_true,Bool.false_or,Bool.or_false,reduceIte,bne_self_eq_false,Bool.not_true,Bool.not_false,Bool.true_beq,Bool.false_beq] at h);(try exact absurd h (by decide)))
  | ((conv=>whnf);first
    | with_reducible apply Both.mk
    | refine LoopP.times 4 ?_))
 all_goals first
  | ((with_reducible apply Ob.mk);first | omega | (simp only [byt8,catB_size,rs_size];omega) | (simp only [byt8,catB_size,rs_size];exact ⟨by omega,by omega⟩) | (simp only [byt8,catB_size,rs_size,jR,g0,g1,oR,zB,Nat.reduceAdd,Nat.reduceLeDiff,Nat.reduceSub,BitVec.reduceAdd,BitVec.reduceToNat,if_true,if_false,reduceIte];exact ⟨by omega,by omega⟩) | (simp only [byt8,catB_size,rs_size];exact ⟨by decide,by omega⟩) | (simp only [byt8,catB_size,rs_size];exact ⟨by omega,by decide⟩) | (simp only [byt8,catB_size,rs_size];exact ⟨by decide,by decide⟩) | exact fun _=>rfl | exact ⟨fun _=>rfl,hd0⟩ | exact ⟨fun _=>rfl,by decide⟩ | exact ⟨(fun j=>by rcases j with _ | _ | j<;>rfl),by decide⟩ | exact ⟨rfl,fun _=>rfl,fun _=>rfl⟩ | ((show (_:List L)=mapL);kernel_rfl) | ((show innerB _ _=true);kernel_rfl) | ((show (_:Ep.S)=_);kernel_rfl) | exact (fun j=>by rcases j with _ | _ | j<;>rfl) | decide | ((show Region.preF _ _=true);kernel_rfl) | ((show Region.tailB _ _=true);kernel_rfl) | ((show Region.lexB _ _=true);kernel_rfl))
  | (with_reducible apply Ob.mk)
  | ((conv=>whnf);exact ⟨[34],rfl,rfl,fun b hb=>(by simp only [List.mem_singleton] at hb;subst hb;exact ⟨rfl,rfl⟩),rfl,fun _ _ h=>look_2 h,by kernel_rfl,trivial⟩)
  | ((conv=>whnf);skip)
set_option maxRecDepth 100000 in
set_option maxHeartbeats 16000000 in
theorem Reg_0 (TM:TypeId) :
 FI Tryd.prog C_n1 Tryd.f32 1 [.one (.rsl 0 0)] [(0,.ro TM mapL)] (fun u g=>u= .one (.raw (.slice none 0 0))∧∀ i d,Ep.look [(0,.ro TM mapL)] i=some d→Ep.look g i=lookU [] i (some d)):=by
 repeat' (first
  | (with_reducible refine Given.ok (by decide) ?_)
  | (with_reducible apply Given.mk;intro h;(try simp only [if_true,if_false,Bool.false_eq_true,Bool.true_and,Bool.false_and,Bool.and_true,Bool.and_false,Bool.true_or,Bool.or_true,Bool.false_or,Bool.or_false,reduceIte,bne_self_eq_false,Bool.not_true,Bool.not_false,Bool.true_beq,Bool.false_beq] at h);(try exact absurd h (by decide)))
  | ((conv=>whnf);first
    | with_reducible apply Both.mk
    | refine LoopP.times 4 ?_))
 all_goals first
  | ((with_reducible apply Ob.mk);first | omega | (simp only [byt8,catB_size,rs_size];omega) | (simp only [byt8,catB_size,rs_size];exact ⟨by omega,by omega⟩) | (simp only [byt8,catB_size,rs_size,jR,g0,g1,oR,zB,Nat.reduceAdd,Nat.reduceLeDiff,Nat.reduceSub,BitVec.reduceAdd,BitVec.reduceToNat,if_true,if_false,reduceIte];exact ⟨by omega,by omega⟩) | (simp only [byt8,catB_size,rs_size];exact ⟨by decide,by omega⟩) | (simp only [byt8,catB_size,rs_size];exact ⟨by omega,by decide⟩) | (simp only [byt8,catB_size,rs_size];exact ⟨by decide,by decide⟩) | exact fun _=>rfl | exact ⟨fun _=>rfl,hd0⟩ | exact ⟨fun _=>rfl,by decide⟩ | exact ⟨(fun j=>by rcases j with _ | _ | j<;>rfl),by decide⟩ | exact ⟨rfl,fun _=>rfl,fun _=>rfl⟩ | ((show (_:List L)=mapL);kernel_rfl) | ((show innerB _ _=true);kernel_rfl) | ((show (_:Ep.S)=_);kernel_rfl) | exact (fun j=>by rcases j with _ | _ | j<;>rfl) | decide | ((show Region.preF _ _=true);kernel_rfl) | ((show Region.tailB _ _=true);kernel_rfl) | ((show Region.lexB _ _=true);kernel_rfl))
  | (with_reducible apply Ob.mk)
  | ((conv=>whnf);exact ⟨rfl,fun _ _ h=>h⟩)
  | ((conv=>whnf);skip)
def sp_reg0:SpW:=fun args ch=>match args,ch with
 | [.one (.rsl 0 0)],[(0,.ro TM ls)]=>some (.p (ls=mapL),.one (.raw (.slice none 0 0)),[])
 | _,_=>none
theorem e_reg0:EntryW Tryd.prog anyWorld 32 sp_reg0:=by
 refine .of_FI C_n1_ok (by kernel_rfl) Tryd.func32 (by kernel_rfl) (by kernel_rfl) (fun args ch c v ups h hc=> ?_)
 unfold sp_reg0 at h
 split at h
 · rename_i TM ls
   cases h
   obtain rfl:ls=mapL:=hc
   exact Reg_0 TM
 · cases h
def sp_regs:SpN:=fun args ch=>match args,ch with
 | [.one (.rsl 0 k)],[(0,.ro TM ls)]=>match k with
   | 1=>some (.p (ls=mapL),.one (.rsl 1 1),[.row 76 3 1 (rgF g0)])
   | 2=>some (.p (ls=mapL),.one (.rsl 1 2),[.row 76 3 2 (rgF (jR 1 g0 g1))])
   | _=>none
 | _,_=>none
theorem e_regs:EntryN Tryd.prog anyWorld 32 sp_regs:=by
 refine .of_FI C_n1_ok (by kernel_rfl) Tryd.func32 (by kernel_rfl) (by kernel_rfl) (fun args ch c v fr h hc=> ?_)
 unfold sp_regs at h
 split at h
 · rename_i k TM ls
   split at h
   · cases h
     obtain rfl:ls=mapL:=hc
     exact Reg_1 TM
   · cases h
     obtain rfl:ls=mapL:=hc
     exact Reg_2 TM
   · cases h
 · cases h
noncomputable abbrev C_q:Table:=⟨(tabM noData [(57,sp_apart)] []).fn,noData.glob,noData.look,fun _ _ _ _ _=>Stuck "call",.sym,0,0,[1000000],fun _ _ _=>none,[]⟩
theorem C_q_ok:CSound Tryd.prog anyWorld C_q:=(CSound.startM (CSound.start.cons e_apart)).inl' (InlOK.none _ _) .sym 0 0 [1000000] []
def oneR (x:RG):RT:=fun _=>x
def shR (r:RT) (k:Nat):RT:=fun q=>r (q + k)
theorem look_q {b d e f:Blk} {x i:Nat} (hx:Nat.beq x 0=false) (h:Ep.look [(0,b)] i=some d):Ep.look [(x,e),(10,f),(0,b)] i=some d:=by
 rcases i with _ | i
 · simp only [Ep.look,hx];exact h
 · have h':(none:Option Blk)=some d:=h
   cases h'
theorem look_q' {b d e f:Blk} {x i:Nat} (hx:Nat.beq x 0=false) (h:Ep.look [(0,b)] i=some d):Ep.look [(10,f),(x,e),(0,b)] i=some d:=by
 rcases i with _ | i
 · simp only [Ep.look,hx];exact h
 · have h':(none:Option Blk)=some d:=h
   cases h'
def memN (nm:Nat) (pe:Bool):Nat:=match nm,pe with
 | 0,false=>5
 | 0,true=>4
 | 1,false=>6
 | 1,true=>5
 | 2,false=>7
 | 2,true=>6
 | _,_=>0
def memT (nm:Nat) (pe:Bool) (r:RT):RT:=match nm,pe with
 | 0,false=>(jR 4 (jR 3 (jR 2 (jR 1 (oneR (r 0)) (oneR (r 1))) (oneR (r 2))) (oneR (r 3))) (oneR (r 4)))
 | 0,true=>(jR 3 (jR 2 (jR 1 (oneR (r 0)) (oneR (r 1))) (oneR (r 2))) (oneR (r 3)))
 | 1,false=>(jR 5 (jR 4 (jR 4 (jR 3 (jR 2 (jR 1 (oneR (r 0)) (oneR (r 1))) (oneR (r 2))) (oneR (r 3))) (oneR (r 4))) (oneR (r 5))) (shR (jR 4 (jR 3 (jR 2 (jR 1 (oneR (r 0)) (oneR (r 1))) (oneR (r 2))) (oneR (r 3))) (oneR (r 4))) 4))
 | 1,true=>(jR 4 (jR 3 (jR 3 (jR 2 (jR 1 (oneR (r 0)) (oneR (r 1))) (oneR (r 2))) (oneR (r 3))) (oneR (r 4))) (shR (jR 3 (jR 2 (jR 1 (oneR (r 0)) (oneR (r 1))) (oneR (r 2))) (oneR (r 3))) 3))
 | 2,false=>(jR 5 (jR 4 (jR 5 (jR 4 (jR 3 (jR 2 (jR 1 (oneR (r 0)) (oneR (r 1))) (oneR (r 2))) (oneR (r 3))) (oneR (r 4))) (oneR (r 5))) (oneR (r 6))) (shR (jR 5 (jR 4 (jR 3 (jR 2 (jR 1 (oneR (r 0)) (oneR (r 1))) (oneR (r 2))) (oneR (r 3))) (oneR (r 4))) (oneR (r 5))) 4))
 | 2,true=>(jR 4 (jR 3 (jR 4 (jR 3 (jR 2 (jR 1 (oneR (r 0)) (oneR (r 1))) (oneR (r 2))) (oneR (r 3))) (oneR (r 4))) (oneR (r 5))) (shR (jR 4 (jR 3 (jR 2 (jR 1 (oneR (r 0)) (oneR (r 1))) (oneR (r 2))) (oneR (r 3))) (oneR (r 4))) 3))
 | _,_=>r
def memP (nm:Nat) (pe:Bool) (r:RT) (p:Nat):Prop:=match nm,pe with
 | 0,false=>(0<p∧p≤100)∧((r 0).b=65536#64∧(r 0).d.size=16)∧((r 1).b=65552#64∧(r 1).d.size=8)∧((r 2).b=131072#64∧(r 2).d.size=512)∧((r 3).b=196608#64∧(r 3).d.size=p)∧((r 4).b=262144#64∧(r 4).d.size=128)
 | 0,true=>(0<p∧p≤100)∧((r 0).b=65536#64∧(r 0).d.size=16)∧((r 1).b=65552#64∧(r 1).d.size=8)∧((r 2).b=131072#64∧(r 2).d.size=512)∧((r 3).b=262144#64∧(r 3).d.size=128)
 | 1,false=>(0<p∧p≤100)∧((r 0).b=65536#64∧(r 0).d.size=16)∧((r 1).b=65552#64∧(r 1).d.size=8)∧((r 2).b=131072#64∧(r 2).d.size=512)∧((r 3).b=196608#64∧(r 3).d.size=p)∧((r 4).b=1048576#64∧(r 4).d.size=32)∧((r 5).b=262144#64∧(r 5).d.size=128)
 | 1,true=>(0<p∧p≤100)∧((r 0).b=65536#64∧(r 0).d.size=16)∧((r 1).b=65552#64∧(r 1).d.size=8)∧((r 2).b=131072#64∧(r 2).d.size=512)∧((r 3).b=1048576#64∧(r 3).d.size=32)∧((r 4).b=262144#64∧(r 4).d.size=128)
 | 2,false=>(0<p∧p≤100)∧((r 0).b=65536#64∧(r 0).d.size=16)∧((r 1).b=65552#64∧(r 1).d.size=8)∧((r 2).b=131072#64∧(r 2).d.size=512)∧((r 3).b=196608#64∧(r 3).d.size=p)∧((r 4).b=1048576#64∧(r 4).d.size=32)∧((r 5).b=1114112#64∧(r 5).d.size=24)∧((r 6).b=262144#64∧(r 6).d.size=128)
 | 2,true=>(0<p∧p≤100)∧((r 0).b=65536#64∧(r 0).d.size=16)∧((r 1).b=65552#64∧(r 1).d.size=8)∧((r 2).b=131072#64∧(r 2).d.size=512)∧((r 3).b=1048576#64∧(r 3).d.size=32)∧((r 4).b=1114112#64∧(r 4).d.size=24)∧((r 5).b=262144#64∧(r 5).d.size=128)
 | _,_=>False
noncomputable abbrev FSp:List (Nat×Func):=[(29,Tryd.f29),(58,Tryd.f58)]
theorem fs_p:FsOK Tryd.prog FSp:=(FsOK.cons Tryd.func29 (by kernel_rfl) (by kernel_rfl) (FsOK.cons Tryd.func58 (by kernel_rfl) (by kernel_rfl) FsOK.nil))
noncomputable abbrev C_p0:Table:=⟨(tabM noData [(30,sp_bytes),(56,sp_base)] [(32,spD sp_reg0)]).fn,noData.glob,noData.look,fun _ _ _ _ _=>Stuck "call",.sym,0,0,[1000000],tabK [(32,spDN sp_regs)],[32]⟩
theorem C_p0_ok:CSound Tryd.prog anyWorld C_p0:=(((CSound.startM ((CSound.start.cons e_base).cons e_Bytes)).consM (EntryM.of_D e_reg0)).withMk (.cons (EntryK.of_N e_regs) .nil)).inl' (InlOK.none _ _) .sym 0 0 [1000000] [32]
noncomputable abbrev C_p:Table:=⟨C_p0.fn,C_p0.glob,C_p0.look,inlN Tryd.prog C_p0 FSp 4,.sym,0,0,[1000000],C_p0.mkr,[32]⟩
theorem C_p_ok:CSound Tryd.prog anyWorld C_p:=C_p0_ok.inl' (inlN_sound C_p0_ok (by kernel_rfl) fs_p 4) .sym 0 0 [1000000] [32]
def sF (K:Nat→ByteArray):Nat→List PL:=fun j=>[.str (K j)]
noncomputable def keys0:Nat→ByteArray:=fun j=>if j=1 then bytV 1#64 4#64 else if j=0 then bytV 0#64 4#64 else ⟨#[]⟩
def keys1:Nat→ByteArray:=fun _=>⟨#[]⟩
noncomputable def mpsB (nm m b:Nat):List Blk:=match nm with
 | 0=>[.cells 114 [.raw (.slice none 0 0),.raw (.slice none 0 0),.ptr m 0]]
 | 1=>[.cells 114 [.rsl (b + 1) 1,.rsl (b + 2) 1,.ptr m 0],.row 64 4 1 mapF2,.vec 115 [.rsl (b + 3) 2],.row 9 1 2 (sF keys0)]
 | 2=>[.cells 114 [.rsl (b + 1) 2,.rsl (b + 2) 2,.ptr m 0],.row 64 4 2 mapF2,.vec 115 [.rsl (b + 3) 2,.rsl (b + 4) 3],.row 9 1 2 (sF keys0),.row 9 1 3 (sF keys1)]
 | _=>[]
def factR (nm:Nat) (pe:Bool) (r:RT) (p:Nat):Prop:=match nm,pe with
 | 0,false=>((r 0).b=65536#64∧(r 0).d.size=16∧(r 0).w=false)∧((r 1).b=65552#64∧(r 1).d.size=8∧(r 1).w=true)∧((r 2).b=131072#64∧(r 2).d.size=512∧(r 2).w=true)∧((r 3).b=196608#64∧(r 3).d.size=p∧(r 3).w=true)∧((r 4).b=262144#64∧(r 4).d.size=128∧(r 4).w=true)
 | 0,true=>((r 0).b=65536#64∧(r 0).d.size=16∧(r 0).w=false)∧((r 1).b=65552#64∧(r 1).d.size=8∧(r 1).w=true)∧((r 2).b=131072#64∧(r 2).d.size=512∧(r 2).w=true)∧((r 3).b=262144#64∧(r 3).d.size=128∧(r 3).w=true)
 | 1,false=>((r 0).b=65536#64∧(r 0).d.size=16∧(r 0).w=false)∧((r 1).b=65552#64∧(r 1).d.size=8∧(r 1).w=true)∧((r 2).b=131072#64∧(r 2).d.size=512∧(r 2).w=true)∧((r 3).b=196608#64∧(r 3).d.size=p∧(r 3).w=true)∧((r 4).b=262144#64∧(r 4).d.size=128∧(r 4).w=true)∧((r 5).b=1048576#64∧(r 5).d.size=32∧(r 5).w=true)
 | 1,true=>((r 0).b=65536#64∧(r 0).d.size=16∧(r 0).w=false)∧((r 1).b=65552#64∧(r 1).d.size=8∧(r 1).w=true)∧((r 2).b=131072#64∧(r 2).d.size=512∧(r 2).w=true)∧((r 3).b=262144#64∧(r 3).d.size=128∧(r 3).w=true)∧((r 4).b=1048576#64∧(r 4).d.size=32∧(r 4).w=true)
 | 2,false=>((r 0).b=65536#64∧(r 0).d.size=16∧(r 0).w=false)∧((r 1).b=65552#64∧(r 1).d.size=8∧(r 1).w=true)∧((r 2).b=131072#64∧(r 2).d.size=512∧(r 2).w=true)∧((r 3).b=196608#64∧(r 3).d.size=p∧(r 3).w=true)∧((r 4).b=262144#64∧(r 4).d.size=128∧(r 4).w=true)∧((r 5).b=1048576#64∧(r 5).d.size=32∧(r 5).w=true)∧((r 6).b=1114112#64∧(r 6).d.size=24∧(r 6).w=true)
 | 2,true=>((r 0).b=65536#64∧(r 0).d.size=16∧(r 0).w=false)∧((r 1).b=65552#64∧(r 1).d.size=8∧(r 1).w=true)∧((r 2).b=131072#64∧(r 2).d.size=512∧(r 2).w=true)∧((r 3).b=262144#64∧(r 3).d.size=128∧(r 3).w=true)∧((r 4).b=1048576#64∧(r 4).d.size=32∧(r 4).w=true)∧((r 5).b=1114112#64∧(r 5).d.size=24∧(r 5).w=true)
 | _,_=>False
theorem look_p {b0 b1 b2 d:Blk} {g:List (Nat×Blk)} {i:Nat} (h:Ep.look [(0,b0),(1,b1),(2,b2)] i=some d) (h0:Ep.look g 0=some b0) (h1:Ep.look g 1=some b1) (h2:Ep.look g 2=some b2):Ep.look g i=some d:=by
 rcases i with _ | _ | _ | i
 · exact h0.trans h
 · exact h1.trans h
 · exact h2.trans h
 · have h':(none:Option Blk)=some d:=h
   cases h'
set_option maxRecDepth 100000 in
set_option maxHeartbeats 16000000 in
theorem Mps_00 (TM T:TypeId) (R:RT) (p:Nat) (hp:p≤100) (HR:((R 0).b=65536#64∧(R 0).d.size=16∧(R 0).w=false)∧((R 1).b=65552#64∧(R 1).d.size=8∧(R 1).w=true)∧((R 2).b=131072#64∧(R 2).d.size=512∧(R 2).w=true)∧((R 3).b=196608#64∧(R 3).d.size=p∧(R 3).w=true)∧((R 4).b=262144#64∧(R 4).d.size=128∧(R 4).w=true)) :
 FI Tryd.prog C_p Tryd.f34 3 [.one (.rsl 0 0),.one (.ptr 1 0)] [(0,.row 64 4 2 mapF2),(1,.cells 109 [.rsl 2 5]),(2,.row T 3 5 (rgF R))] (OutN [(0,.row 64 4 2 mapF2),(1,.cells 109 [.rsl 2 5]),(2,.row T 3 5 (rgF R))] (.tup [(false,[.ptr 3 0]),(false,[.b64 true 0#64])]) [.cells 114 [.raw (.slice none 0 0),.raw (.slice none 0 0),.ptr 1 0]]):=by
 obtain ⟨⟨f0,z0,w0⟩,⟨f1,z1,w1⟩,⟨f2,z2,w2⟩,⟨f3,z3,w3⟩,⟨f4,z4,w4⟩⟩:=HR
 repeat' (first
  | (with_reducible refine Given.ok (by decide) ?_)
  | (with_reducible apply Given.mk;intro h;(try simp only [f0,z0,w0,f1,z1,w1,f2,z2,w2,f3,z3,w3,f4,z4,w4,catB_size,byt8,rs_size,zB_size,jR,g0,g1,oR,zB,Nat.reduceAdd,Nat.reduceLeDiff,Nat.reduceSub,BitVec.reduceAdd,BitVec.reduceSub,BitVec.reduceMul,BitVec.reduceToNat,BitVec.reduceULE,BitVec.reduceULT,BitVec.reduceSLT,BitVec.reduceBEq,BitVec.reduceBNe,BitVec.reduceOfNat,if_true,if_false,Bool.false_eq_true,Bool.true_and,Bool.false_and,Bool.and_true,Bool.and_false,Bool.true_or,Bool.or_true,Bool.false_or,Bool.or_false,reduceIte,bne_self_eq_false,Bool.not_true,Bool.not_false,Bool.true_beq,Bool.false_beq] at h);(try exact absurd h (by decide)))
  | ((conv=>whnf);first
    | with_reducible apply Both.mk
    | refine LoopP.times 8 ?_))
 all_goals first
  | ((with_reducible apply Ob.mk);first | omega | (simp only [byt8,catB_size,rs_size];omega) | (simp only [byt8,catB_size,rs_size];exact ⟨by omega,by omega⟩) | (simp only [byt8,catB_size,rs_size,jR,g0,g1,oR,zB,Nat.reduceAdd,Nat.reduceLeDiff,Nat.reduceSub,BitVec.reduceAdd,BitVec.reduceToNat,if_true,if_false,reduceIte];exact ⟨by omega,by omega⟩) | (simp only [byt8,catB_size,rs_size];exact ⟨by decide,by omega⟩) | (simp only [byt8,catB_size,rs_size];exact ⟨by omega,by decide⟩) | (simp only [byt8,catB_size,rs_size];exact ⟨by decide,by decide⟩) | exact fun _=>rfl | (simp only [BitVec.reduceAdd,BitVec.reduceToNat,z0,z1,z2,z3,z4];omega) | (simp only [BitVec.reduceAdd,BitVec.reduceToNat,z0,z1,z2,z3,z4];decide) | exact ⟨fun _=>rfl,hd0⟩ | exact ⟨fun _=>rfl,by decide⟩ | exact ⟨(fun j=>by rcases j with _ | _ | j<;>rfl),by decide⟩ | exact ⟨rfl,fun _=>rfl,fun _=>rfl⟩ | ((show (_:List L)=mapL);kernel_rfl) | ((show innerB _ _=true);kernel_rfl) | ((show (_:Ep.S)=_);kernel_rfl) | exact (fun j=>by rcases j with _ | _ | j<;>rfl) | decide | ((show Region.preF _ _=true);kernel_rfl) | ((show Region.tailB _ _=true);kernel_rfl) | ((show Region.lexB _ _=true);kernel_rfl))
  | (with_reducible apply Ob.mk)
  | ((conv=>whnf);exact ⟨[26],rfl,rfl,fun b hb=>(by simp only [List.mem_cons,List.mem_nil_iff,or_false] at hb;rcases hb with rfl<;>exact ⟨rfl,rfl⟩),rfl,fun _ _ h=>look_p h rfl rfl rfl,by kernel_rfl,trivial⟩)
  | ((conv=>whnf);skip)
set_option maxRecDepth 100000 in
set_option maxHeartbeats 16000000 in
theorem Mps_01 (TM T:TypeId) (R:RT) (p:Nat) (hp:p≤100) (HR:((R 0).b=65536#64∧(R 0).d.size=16∧(R 0).w=false)∧((R 1).b=65552#64∧(R 1).d.size=8∧(R 1).w=true)∧((R 2).b=131072#64∧(R 2).d.size=512∧(R 2).w=true)∧((R 3).b=262144#64∧(R 3).d.size=128∧(R 3).w=true)) :
 FI Tryd.prog C_p Tryd.f34 3 [.one (.rsl 0 0),.one (.ptr 1 0)] [(0,.row 64 4 2 mapF2),(1,.cells 109 [.rsl 2 4]),(2,.row T 3 4 (rgF R))] (OutN [(0,.row 64 4 2 mapF2),(1,.cells 109 [.rsl 2 4]),(2,.row T 3 4 (rgF R))] (.tup [(false,[.ptr 3 0]),(false,[.b64 true 0#64])]) [.cells 114 [.raw (.slice none 0 0),.raw (.slice none 0 0),.ptr 1 0]]):=by
 obtain ⟨⟨f0,z0,w0⟩,⟨f1,z1,w1⟩,⟨f2,z2,w2⟩,⟨f3,z3,w3⟩⟩:=HR
 repeat' (first
  | (with_reducible refine Given.ok (by decide) ?_)
  | (with_reducible apply Given.mk;intro h;(try simp only [f0,z0,w0,f1,z1,w1,f2,z2,w2,f3,z3,w3,catB_size,byt8,rs_size,zB_size,jR,g0,g1,oR,zB,Nat.reduceAdd,Nat.reduceLeDiff,Nat.reduceSub,BitVec.reduceAdd,BitVec.reduceSub,BitVec.reduceMul,BitVec.reduceToNat,BitVec.reduceULE,BitVec.reduceULT,BitVec.reduceSLT,BitVec.reduceBEq,BitVec.reduceBNe,BitVec.reduceOfNat,if_true,if_false,Bool.false_eq_true,Bool.true_and,Bool.false_and,Bool.and_true,Bool.and_false,Bool.true_or,Bool.or_true,Bool.false_or,Bool.or_false,reduceIte,bne_self_eq_false,Bool.not_true,Bool.not_false,Bool.true_beq,Bool.false_beq] at h);(try exact absurd h (by decide)))
  | ((conv=>whnf);first
    | with_reducible apply Both.mk
    | refine LoopP.times 8 ?_))
 all_goals first
  | ((with_reducible apply Ob.mk);first | omega | (simp only [byt8,catB_size,rs_size];omega) | (simp only [byt8,catB_size,rs_size];exact ⟨by omega,by omega⟩) | (simp only [byt8,catB_size,rs_size,jR,g0,g1,oR,zB,Nat.reduceAdd,Nat.reduceLeDiff,Nat.reduceSub,BitVec.reduceAdd,BitVec.reduceToNat,if_true,if_false,reduceIte];exact ⟨by omega,by omega⟩) | (simp only [byt8,catB_size,rs_size];exact ⟨by decide,by omega⟩) | (simp only [byt8,catB_size,rs_size];exact ⟨by omega,by decide⟩) | (simp only [byt8,catB_size,rs_size];exact ⟨by decide,by decide⟩) | exact fun _=>rfl | (simp only [BitVec.reduceAdd,BitVec.reduceToNat,z0,z1,z2,z3];omega) | (simp only [BitVec.reduceAdd,BitVec.reduceToNat,z0,z1,z2,z3];decide) | exact ⟨fun _=>rfl,hd0⟩ | exact ⟨fun _=>rfl,by decide⟩ | exact ⟨(fun j=>by rcases j with _ | _ | j<;>rfl),by decide⟩ | exact ⟨rfl,fun _=>rfl,fun _=>rfl⟩ | ((show (_:List L)=mapL);kernel_rfl) | ((show innerB _ _=true);kernel_rfl) | ((show (_:Ep.S)=_);kernel_rfl) | exact (fun j=>by rcases j with _ | _ | j<;>rfl) | decide | ((show Region.preF _ _=true);kernel_rfl) | ((show Region.tailB _ _=true);kernel_rfl) | ((show Region.lexB _ _=true);kernel_rfl))
  | (with_reducible apply Ob.mk)
  | ((conv=>whnf);exact ⟨[26],rfl,rfl,fun b hb=>(by simp only [List.mem_cons,List.mem_nil_iff,or_false] at hb;rcases hb with rfl<;>exact ⟨rfl,rfl⟩),rfl,fun _ _ h=>look_p h rfl rfl rfl,by kernel_rfl,trivial⟩)
  | ((conv=>whnf);skip)
set_option maxRecDepth 100000 in
set_option maxHeartbeats 16000000 in
theorem Mps_10 (TM T:TypeId) (R:RT) (p:Nat) (hp:p≤100) (HR:((R 0).b=65536#64∧(R 0).d.size=16∧(R 0).w=false)∧((R 1).b=65552#64∧(R 1).d.size=8∧(R 1).w=true)∧((R 2).b=131072#64∧(R 2).d.size=512∧(R 2).w=true)∧((R 3).b=196608#64∧(R 3).d.size=p∧(R 3).w=true)∧((R 4).b=262144#64∧(R 4).d.size=128∧(R 4).w=true)∧((R 5).b=1048576#64∧(R 5).d.size=32∧(R 5).w=true)) :
 FI Tryd.prog C_p Tryd.f34 3 [.one (.rsl 0 1),.one (.ptr 1 0)] [(0,.row 64 4 2 mapF2),(1,.cells 109 [.rsl 2 6]),(2,.row T 3 6 (rgF R))] (OutN [(0,.row 64 4 2 mapF2),(1,.cells 109 [.rsl 2 6]),(2,.row T 3 6 (rgF R))] (.tup [(false,[.ptr 3 0]),(false,[.b64 true 0#64])]) [.cells 114 [.rsl 4 1,.rsl 5 1,.ptr 1 0],.row 64 4 1 mapF2,.vec 115 [.rsl 6 2],.row 9 1 2 (sF keys0)]):=by
 obtain ⟨⟨f0,z0,w0⟩,⟨f1,z1,w1⟩,⟨f2,z2,w2⟩,⟨f3,z3,w3⟩,⟨f4,z4,w4⟩,⟨f5,z5,w5⟩⟩:=HR
 repeat' (first
  | (with_reducible refine Given.ok (by decide) ?_)
  | (with_reducible apply Given.mk;intro h;(try simp only [f0,z0,w0,f1,z1,w1,f2,z2,w2,f3,z3,w3,f4,z4,w4,f5,z5,w5,catB_size,byt8,rs_size,zB_size,jR,g0,g1,oR,zB,Nat.reduceAdd,Nat.reduceLeDiff,Nat.reduceSub,BitVec.reduceAdd,BitVec.reduceSub,BitVec.reduceMul,BitVec.reduceToNat,BitVec.reduceULE,BitVec.reduceULT,BitVec.reduceSLT,BitVec.reduceBEq,BitVec.reduceBNe,BitVec.reduceOfNat,if_true,if_false,Bool.false_eq_true,Bool.true_and,Bool.false_and,Bool.and_true,Bool.and_false,Bool.true_or,Bool.or_true,Bool.false_or,Bool.or_false,reduceIte,bne_self_eq_false,Bool.not_true,Bool.not_false,Bool.true_beq,Bool.false_beq] at h);(try exact absurd h (by decide)))
  | ((conv=>whnf);first
    | with_reducible apply Both.mk
    | refine LoopP.times 8 ?_))
 all_goals first
  | ((with_reducible apply Ob.mk);first | omega | (simp only [byt8,catB_size,rs_size];omega) | (simp only [byt8,catB_size,rs_size];exact ⟨by omega,by omega⟩) | (simp only [byt8,catB_size,rs_size,jR,g0,g1,oR,zB,Nat.reduceAdd,Nat.reduceLeDiff,Nat.reduceSub,BitVec.reduceAdd,BitVec.reduceToNat,if_true,if_false,reduceIte];exact ⟨by omega,by omega⟩) | (simp only [byt8,catB_size,rs_size];exact ⟨by decide,by omega⟩) | (simp only [byt8,catB_size,rs_size];exact ⟨by omega,by decide⟩) | (simp only [byt8,catB_size,rs_size];exact ⟨by decide,by decide⟩) | exact fun _=>rfl | (simp only [BitVec.reduceAdd,BitVec.reduceToNat,z0,z1,z2,z3,z4,z5];omega) | (simp only [BitVec.reduceAdd,BitVec.reduceToNat,z0,z1,z2,z3,z4,z5];decide) | exact ⟨fun _=>rfl,hd0⟩ | exact ⟨fun _=>rfl,by decide⟩ | exact ⟨(fun j=>by rcases j with _ | _ | j<;>rfl),by decide⟩ | exact ⟨rfl,fun _=>rfl,fun _=>rfl⟩ | ((show (_:List L)=mapL);kernel_rfl) | ((show innerB _ _=true);kernel_rfl) | ((show (_:Ep.S)=_);kernel_rfl) | exact (fun j=>by rcases j with _ | _ | j<;>rfl) | decide | ((show Region.preF _ _=true);kernel_rfl) | ((show Region.tailB _ _=true);kernel_rfl) | ((show Region.lexB _ _=true);kernel_rfl))
  | (with_reducible apply Ob.mk)
  | ((conv=>whnf);exact ⟨[26,23,66,38],rfl,rfl,fun b hb=>(by simp only [List.mem_cons,List.mem_nil_iff,or_false] at hb;rcases hb with rfl | rfl | rfl | rfl<;>exact ⟨rfl,rfl⟩),rfl,fun _ _ h=>look_p h rfl rfl rfl,by kernel_rfl,by kernel_rfl,by kernel_rfl,by kernel_rfl,trivial⟩)
  | ((conv=>whnf);skip)
set_option maxRecDepth 100000 in
set_option maxHeartbeats 16000000 in
theorem Mps_11 (TM T:TypeId) (R:RT) (p:Nat) (hp:p≤100) (HR:((R 0).b=65536#64∧(R 0).d.size=16∧(R 0).w=false)∧((R 1).b=65552#64∧(R 1).d.size=8∧(R 1).w=true)∧((R 2).b=131072#64∧(R 2).d.size=512∧(R 2).w=true)∧((R 3).b=262144#64∧(R 3).d.size=128∧(R 3).w=true)∧((R 4).b=1048576#64∧(R 4).d.size=32∧(R 4).w=true)) :
 FI Tryd.prog C_p Tryd.f34 3 [.one (.rsl 0 1),.one (.ptr 1 0)] [(0,.row 64 4 2 mapF2),(1,.cells 109 [.rsl 2 5]),(2,.row T 3 5 (rgF R))] (OutN [(0,.row 64 4 2 mapF2),(1,.cells 109 [.rsl 2 5]),(2,.row T 3 5 (rgF R))] (.tup [(false,[.ptr 3 0]),(false,[.b64 true 0#64])]) [.cells 114 [.rsl 4 1,.rsl 5 1,.ptr 1 0],.row 64 4 1 mapF2,.vec 115 [.rsl 6 2],.row 9 1 2 (sF keys0)]):=by
 obtain ⟨⟨f0,z0,w0⟩,⟨f1,z1,w1⟩,⟨f2,z2,w2⟩,⟨f3,z3,w3⟩,⟨f4,z4,w4⟩⟩:=HR
 repeat' (first
  | (with_reducible refine Given.ok (by decide) ?_)
  | (with_reducible apply Given.mk;intro h;(try simp only [f0,z0,w0,f1,z1,w1,f2,z2,w2,f3,z3,w3,f4,z4,w4,catB_size,byt8,rs_size,zB_size,jR,g0,g1,oR,zB,Nat.reduceAdd,Nat.reduceLeDiff,Nat.reduceSub,BitVec.reduceAdd,BitVec.reduceSub,BitVec.reduceMul,BitVec.reduceToNat,BitVec.reduceULE,BitVec.reduceULT,BitVec.reduceSLT,BitVec.reduceBEq,BitVec.reduceBNe,BitVec.reduceOfNat,if_true,if_false,Bool.false_eq_true,Bool.true_and,Bool.false_and,Bool.and_true,Bool.and_false,Bool.true_or,Bool.or_true,Bool.false_or,Bool.or_false,reduceIte,bne_self_eq_false,Bool.not_true,Bool.not_false,Bool.true_beq,Bool.false_beq] at h);(try exact absurd h (by decide)))
  | ((conv=>whnf);first
    | with_reducible apply Both.mk
    | refine LoopP.times 8 ?_))
 all_goals first
  | ((with_reducible apply Ob.mk);first | omega | (simp only [byt8,catB_size,rs_size];omega) | (simp only [byt8,catB_size,rs_size];exact ⟨by omega,by omega⟩) | (simp only [byt8,catB_size,rs_size,jR,g0,g1,oR,zB,Nat.reduceAdd,Nat.reduceLeDiff,Nat.reduceSub,BitVec.reduceAdd,BitVec.reduceToNat,if_true,if_false,reduceIte];exact ⟨by omega,by omega⟩) | (simp only [byt8,catB_size,rs_size];exact ⟨by decide,by omega⟩) | (simp only [byt8,catB_size,rs_size];exact ⟨by omega,by decide⟩) | (simp only [byt8,catB_size,rs_size];exact ⟨by decide,by decide⟩) | exact fun _=>rfl | (simp only [BitVec.reduceAdd,BitVec.reduceToNat,z0,z1,z2,z3,z4];omega) | (simp only [BitVec.reduceAdd,BitVec.reduceToNat,z0,z1,z2,z3,z4];decide) | exact ⟨fun _=>rfl,hd0⟩ | exact ⟨fun _=>rfl,by decide⟩ | exact ⟨(fun j=>by rcases j with _ | _ | j<;>rfl),by decide⟩ | exact ⟨rfl,fun _=>rfl,fun _=>rfl⟩ | ((show (_:List L)=mapL);kernel_rfl) | ((show innerB _ _=true);kernel_rfl) | ((show (_:Ep.S)=_);kernel_rfl) | exact (fun j=>by rcases j with _ | _ | j<;>rfl) | decide | ((show Region.preF _ _=true);kernel_rfl) | ((show Region.tailB _ _=true);kernel_rfl) | ((show Region.lexB _ _=true);kernel_rfl))
  | (with_reducible apply Ob.mk)
  | ((conv=>whnf);exact ⟨[26,23,66,38],rfl,rfl,fun b hb=>(by simp only [List.mem_cons,List.mem_nil_iff,or_false] at hb;rcases hb with rfl | rfl | rfl | rfl<;>exact ⟨rfl,rfl⟩),rfl,fun _ _ h=>look_p h rfl rfl rfl,by kernel_rfl,by kernel_rfl,by kernel_rfl,by kernel_rfl,trivial⟩)
  | ((conv=>whnf);skip)
set_option maxRecDepth 100000 in
set_option maxHeartbeats 16000000 in
theorem Mps_20 (TM T:TypeId) (R:RT) (p:Nat) (hp:p≤100) (HR:((R 0).b=65536#64∧(R 0).d.size=16∧(R 0).w=false)∧((R 1).b=65552#64∧(R 1).d.size=8∧(R 1).w=true)∧((R 2).b=131072#64∧(R 2).d.size=512∧(R 2).w=true)∧((R 3).b=196608#64∧(R 3).d.size=p∧(R 3).w=true)∧((R 4).b=262144#64∧(R 4).d.size=128∧(R 4).w=true)∧((R 5).b=1048576#64∧(R 5).d.size=32∧(R 5).w=true)∧((R 6).b=1114112#64∧(R 6).d.size=24∧(R 6).w=true)) :
 FI Tryd.prog C_p Tryd.f34 3 [.one (.rsl 0 2),.one (.ptr 1 0)] [(0,.row 64 4 2 mapF2),(1,.cells 109 [.rsl 2 7]),(2,.row T 3 7 (rgF R))] (OutN [(0,.row 64 4 2 mapF2),(1,.cells 109 [.rsl 2 7]),(2,.row T 3 7 (rgF R))] (.tup [(false,[.ptr 3 0]),(false,[.b64 true 0#64])]) [.cells 114 [.rsl 4 2,.rsl 5 2,.ptr 1 0],.row 64 4 2 mapF2,.vec 115 [.rsl 6 2,.rsl 7 3],.row 9 1 2 (sF keys0),.row 9 1 3 (sF keys1)]):=by
 obtain ⟨⟨f0,z0,w0⟩,⟨f1,z1,w1⟩,⟨f2,z2,w2⟩,⟨f3,z3,w3⟩,⟨f4,z4,w4⟩,⟨f5,z5,w5⟩,⟨f6,z6,w6⟩⟩:=HR
 repeat' (first
  | (with_reducible refine Given.ok (by decide) ?_)
  | (with_reducible apply Given.mk;intro h;(try simp only [f0,z0,w0,f1,z1,w1,f2,z2,w2,f3,z3,w3,f4,z4,w4,f5,z5,w5,f6,z6,w6,catB_size,byt8,rs_size,zB_size,jR,g0,g1,oR,zB,Nat.reduceAdd,Nat.reduceLeDiff,Nat.reduceSub,BitVec.reduceAdd,BitVec.reduceSub,BitVec.reduceMul,BitVec.reduceToNat,BitVec.reduceULE,BitVec.reduceULT,BitVec.reduceSLT,BitVec.reduceBEq,BitVec.reduceBNe,BitVec.reduceOfNat,if_true,if_false,Bool.false_eq_true,Bool.true_and,Bool.false_and,Bool.and_true,Bool.and_false,Bool.true_or,Bool.or_true,Bool.false_or,Bool.or_false,reduceIte,bne_self_eq_false,Bool.not_true,Bool.not_false,Bool.true_beq,Bool.false_beq] at h);(try exact absurd h (by decide)))
  | ((conv=>whnf);first
    | with_reducible apply Both.mk
    | refine LoopP.times 8 ?_))
 all_goals first
  | ((with_reducible apply Ob.mk);first | omega | (simp only [byt8,catB_size,rs_size];omega) | (simp only [byt8,catB_size,rs_size];exact ⟨by omega,by omega⟩) | (simp only [byt8,catB_size,rs_size,jR,g0,g1,oR,zB,Nat.reduceAdd,Nat.reduceLeDiff,Nat.reduceSub,BitVec.reduceAdd,BitVec.reduceToNat,if_true,if_false,reduceIte];exact ⟨by omega,by omega⟩) | (simp only [byt8,catB_size,rs_size];exact ⟨by decide,by omega⟩) | (simp only [byt8,catB_size,rs_size];exact ⟨by omega,by decide⟩) | (simp only [byt8,catB_size,rs_size];exact ⟨by decide,by decide⟩) | exact fun _=>rfl | (simp only [BitVec.reduceAdd,BitVec.reduceToNat,z0,z1,z2,z3,z4,z5,z6];omega) | (simp only [BitVec.reduceAdd,BitVec.reduceToNat,z0,z1,z2,z3,z4,z5,z6];decide) | exact ⟨fun _=>rfl,hd0⟩ | exact ⟨fun _=>rfl,by decide⟩ | exact ⟨(fun j=>by rcases j with _ | _ | j<;>rfl),by decide⟩ | exact ⟨rfl,fun _=>rfl,fun _=>rfl⟩ | ((show (_:List L)=mapL);kernel_rfl) | ((show innerB _ _=true);kernel_rfl) | ((show (_:Ep.S)=_);kernel_rfl) | exact (fun j=>by rcases j with _ | _ | j<;>rfl) | decide | ((show Region.preF _ _=true);kernel_rfl) | ((show Region.tailB _ _=true);kernel_rfl) | ((show Region.lexB _ _=true);kernel_rfl))
  | (with_reducible apply Ob.mk)
  | ((conv=>whnf);exact ⟨[26,23,66,38,39],rfl,rfl,fun b hb=>(by simp only [List.mem_cons,List.mem_nil_iff,or_false] at hb;rcases hb with rfl | rfl | rfl | rfl | rfl<;>exact ⟨rfl,rfl⟩),rfl,fun _ _ h=>look_p h rfl rfl rfl,by kernel_rfl,by kernel_rfl,by kernel_rfl,by kernel_rfl,by kernel_rfl,trivial⟩)
  | ((conv=>whnf);skip)
set_option maxRecDepth 100000 in
set_option maxHeartbeats 16000000 in
theorem Mps_21 (TM T:TypeId) (R:RT) (p:Nat) (hp:p≤100) (HR:((R 0).b=65536#64∧(R 0).d.size=16∧(R 0).w=false)∧((R 1).b=65552#64∧(R 1).d.size=8∧(R 1).w=true)∧((R 2).b=131072#64∧(R 2).d.size=512∧(R 2).w=true)∧((R 3).b=262144#64∧(R 3).d.size=128∧(R 3).w=true)∧((R 4).b=1048576#64∧(R 4).d.size=32∧(R 4).w=true)∧((R 5).b=1114112#64∧(R 5).d.size=24∧(R 5).w=true)) :
 FI Tryd.prog C_p Tryd.f34 3 [.one (.rsl 0 2),.one (.ptr 1 0)] [(0,.row 64 4 2 mapF2),(1,.cells 109 [.rsl 2 6]),(2,.row T 3 6 (rgF R))] (OutN [(0,.row 64 4 2 mapF2),(1,.cells 109 [.rsl 2 6]),(2,.row T 3 6 (rgF R))] (.tup [(false,[.ptr 3 0]),(false,[.b64 true 0#64])]) [.cells 114 [.rsl 4 2,.rsl 5 2,.ptr 1 0],.row 64 4 2 mapF2,.vec 115 [.rsl 6 2,.rsl 7 3],.row 9 1 2 (sF keys0),.row 9 1 3 (sF keys1)]):=by
 obtain ⟨⟨f0,z0,w0⟩,⟨f1,z1,w1⟩,⟨f2,z2,w2⟩,⟨f3,z3,w3⟩,⟨f4,z4,w4⟩,⟨f5,z5,w5⟩⟩:=HR
 repeat' (first
  | (with_reducible refine Given.ok (by decide) ?_)
  | (with_reducible apply Given.mk;intro h;(try simp only [f0,z0,w0,f1,z1,w1,f2,z2,w2,f3,z3,w3,f4,z4,w4,f5,z5,w5,catB_size,byt8,rs_size,zB_size,jR,g0,g1,oR,zB,Nat.reduceAdd,Nat.reduceLeDiff,Nat.reduceSub,BitVec.reduceAdd,BitVec.reduceSub,BitVec.reduceMul,BitVec.reduceToNat,BitVec.reduceULE,BitVec.reduceULT,BitVec.reduceSLT,BitVec.reduceBEq,BitVec.reduceBNe,BitVec.reduceOfNat,if_true,if_false,Bool.false_eq_true,Bool.true_and,Bool.false_and,Bool.and_true,Bool.and_false,Bool.true_or,Bool.or_true,Bool.false_or,Bool.or_false,reduceIte,bne_self_eq_false,Bool.not_true,Bool.not_false,Bool.true_beq,Bool.false_beq] at h);(try exact absurd h (by decide)))
  | ((conv=>whnf);first
    | with_reducible apply Both.mk
    | refine LoopP.times 8 ?_))
 all_goals first
  | ((with_reducible apply Ob.mk);first | omega | (simp only [byt8,catB_size,rs_size];omega) | (simp only [byt8,catB_size,rs_size];exact ⟨by omega,by omega⟩) | (simp only [byt8,catB_size,rs_size,jR,g0,g1,oR,zB,Nat.reduceAdd,Nat.reduceLeDiff,Nat.reduceSub,BitVec.reduceAdd,BitVec.reduceToNat,if_true,if_false,reduceIte];exact ⟨by omega,by omega⟩) | (simp only [byt8,catB_size,rs_size];exact ⟨by decide,by omega⟩) | (simp only [byt8,catB_size,rs_size];exact ⟨by omega,by decide⟩) | (simp only [byt8,catB_size,rs_size];exact ⟨by decide,by decide⟩) | exact fun _=>rfl | (simp only [BitVec.reduceAdd,BitVec.reduceToNat,z0,z1,z2,z3,z4,z5];omega) | (simp only [BitVec.reduceAdd,BitVec.reduceToNat,z0,z1,z2,z3,z4,z5];decide) | exact ⟨fun _=>rfl,hd0⟩ | exact ⟨fun _=>rfl,by decide⟩ | exact ⟨(fun j=>by rcases j with _ | _ | j<;>rfl),by decide⟩ | exact ⟨rfl,fun _=>rfl,fun _=>rfl⟩ | ((show (_:List L)=mapL);kernel_rfl) | ((show innerB _ _=true);kernel_rfl) | ((show (_:Ep.S)=_);kernel_rfl) | exact (fun j=>by rcases j with _ | _ | j<;>rfl) | decide | ((show Region.preF _ _=true);kernel_rfl) | ((show Region.tailB _ _=true);kernel_rfl) | ((show Region.lexB _ _=true);kernel_rfl))
  | (with_reducible apply Ob.mk)
  | ((conv=>whnf);exact ⟨[26,23,66,38,39],rfl,rfl,fun b hb=>(by simp only [List.mem_cons,List.mem_nil_iff,or_false] at hb;rcases hb with rfl | rfl | rfl | rfl | rfl<;>exact ⟨rfl,rfl⟩),rfl,fun _ _ h=>look_p h rfl rfl rfl,by kernel_rfl,by kernel_rfl,by kernel_rfl,by kernel_rfl,by kernel_rfl,trivial⟩)
  | ((conv=>whnf);skip)
noncomputable def sp_mps (nm n:Nat) (F:RT→Prop):SpN:=fun args ch=>match args,ch with
 | [.one (.rsl 0 k),.one (.ptr 1 0)],[(0,.row 64 4 2 ls),(1,.cells 109 [.rsl 2 n1]),(2,.row T 3 n2 f)]=>some (.p (k=nm∧ls=mapF2∧n1=n∧n2=n∧f=rgF (rgOf f)∧F (rgOf f)),.tup [(false,[.ptr 3 0]),(false,[.b64 true 0#64])],mpsB nm 1 3)
 | _,_=>none
set_option maxRecDepth 100000 in
theorem e_mps (nm:Nat) (pe:Bool) (hn:nm<3):EntryN Tryd.prog anyWorld 34 (sp_mps nm (memN nm pe) (fun r=>∃ p,p≤100∧factR nm pe r p)):=by
 refine .of_FI C_p_ok (by kernel_rfl) Tryd.func34 (by kernel_rfl) (by kernel_rfl) (fun args ch c v fr h hc=> ?_)
 unfold sp_mps at h
 split at h
 · rename_i k ls n1 T n2 f
   cases h
   obtain ⟨rfl,rfl,rfl,rfl,h5,p,hp,hF⟩:=hc
   generalize rgOf f=r at *
   subst h5
   rcases k with _ | _ | _ | k
   · cases pe
     · exact Mps_00 0 T r p hp hF
     · exact Mps_01 0 T r p hp hF
   · cases pe
     · exact Mps_10 0 T r p hp hF
     · exact Mps_11 0 T r p hp hF
   · cases pe
     · exact Mps_20 0 T r p hp hF
     · exact Mps_21 0 T r p hp hF
   · omega
 · cases h
end Go.Proofs.YthkgakelgdncjaaDoor
