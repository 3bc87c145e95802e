/- Chapter 04: progs.Check: what it answers. Conditions: as typed. -/
import Derived.Test.YthkgakelgdncjaaDoorOc
import Derived.Test.YthkgakelgdncjaaDoorOq
namespace Go.Proofs.YthkgakelgdncjaaDoor
open Go.Ep Go.RowKit
set_option linter.unusedVariables false
set_option linter.unusedSimpArgs false
noncomputable abbrev FSk:List (Nat×Func):=[(38,Tryd.f38),(42,Tryd.f42),(39,Tryd.f39),(41,Tryd.f41)]
theorem fs_k:FsOK Tryd.prog FSk:=FsOK.cons Tryd.func38 (by kernel_rfl) (by kernel_rfl) (FsOK.cons Tryd.func42 (by kernel_rfl) (by kernel_rfl) (FsOK.cons Tryd.func39 (by kernel_rfl) (by kernel_rfl) (FsOK.cons Tryd.func41 (by kernel_rfl) (by kernel_rfl) (FsOK.nil))))
noncomputable abbrev C_k:Table:=withW (tabMI Tryd.prog noData tb_o ms_o3 FSk 4) [(43,sp_vis 192)]
theorem CI_k:CSound Tryd.prog anyWorld C_k:=(CSound.tabMI CM_o3 (by kernel_rfl) fs_k 4).withW (.cons (e_vis 192) .nil)
theorem vis_end' (x:IT) {n m:Nat} (W:WaysOK x n) (h0:0<n) (hm:n≤m):visF x m 0 (fun _=>false)=reachB x:=by
 obtain ⟨h1,h2⟩:=visF_ok x W m (fun _=>false) 0 (by rw [cnt_none];exact hm) h0 rfl
 funext j
 have key:visF x m 0 (fun _=>false) j=true ↔ Reach x j:=by
  constructor
  · intro h
    rcases visF_sound x m _ 0 .zero j h with h | h
    · cases h
    · exact h
  · intro h
    induction h with
    | zero=>exact h1
    | step h hq ih=>
      rcases h2 _ ih with h | h
      · cases h
      · exact h.2.2 _ hq
 exact eq_reach key
theorem fsB_zero (x:IT):bF (fsB x 0)=fun _=>[PL.bool false]:=by
 funext j;show [PL.bool (fsB x 0 j)]=_;rw [show fsB x 0 j=false by simp [fsB]]
set_option maxRecDepth 100000 in
set_option maxHeartbeats 32000000 in
theorem Check_ (w:Bool) (T:TypeId) (len cap:Nat) (x:IT) (m:BitVec 64) (hl:len≤8000) (h192:len≤192) (h0:0<len) (hn:¬ (len=0∨mostN w<len)) (f0:(BitVec.ofNat 64 len==0#64)=false) (f1:(cond w (64#64*3#64) 64#64).slt (BitVec.ofNat 64 len)=false) :
 FI Tryd.prog C_k Tryd.f15 1 [.one (.slc 0 0 len cap),.one (.b64 true m),.one (.bool w)] [(0,.ro T [.seg 5 len (inF x)])] (fun r _=>r=ansC x len m w):=by
 obtain ⟨v1,v2,v3,v4,hv1,hv2,hv3,hv4⟩:∃ a b c d:Bool,a=w∧b=w∧c=w∧d=w:=⟨_,_,_,_,rfl,rfl,rfl,rfl⟩
 cases w
 all_goals simp only [cond_true,cond_false] at f1
 all_goals repeat' (first
  | (with_reducible apply Given.mk;intro h;(try (have ea:=first_ge hl q1.2 h));(try (have e2:len=k2:=ge8k hl q2.1 h;subst e2));(try (have e3:len=k3:=ge8k hl q3.1 h;subst e3));(try (have e4:len=k4:=ge8k hl q4.1 h;subst e4));(try simp only [f0,f1,BitVec.reduceBNe,BitVec.reduceBEq,reduceCtorEq,Bool.true_eq_false,Bool.false_eq_true] at h);(try ((fail_if_success (have _q:=q1));exact absurd h (by decide)));(try exact absurd (show (0#64).slt 2#64=false from h) (by decide));(try exact absurd (show (0#64 + 1#64).slt 2#64=false from h) (by decide));(try exact absurd (show (0#64 + 1#64 + 1#64).slt 2#64=true from h) (by decide)))
  | ((conv=>whnf);first
    | with_reducible apply Both.mk
    | ((fail_if_success (have _q:=q1));refine LoopP.mk (Nat) (fun a=>hf x a=false∧a≤len + 1) ((fun a=>mkS (Tryd.f38).ntmps [(0,.one (.slc 0 0 len cap)),(3,.one (.rsl 88 len)),(4,iN a)] [(88,.row 4 1 len (bF (fsB x a))),(6,.cells 4 [.bool v1]),(5,.cells 3 [.b64 true m]),(4,.cells 22 [.slc 0 0 len cap]),(0,.ro T [.seg 5 len (inF x)])])) (fun a=>len + 2 - a) ⟨0,⟨rfl,Nat.zero_le _⟩,⟨?_,?_,?_,?_,?_⟩⟩ ?_<;>(try subst hv1);(iterate 2 (focus ((repeat' ((conv=>whnf);first | exact trivial | refine Both.mk (by first | with_reducible rfl | exact iN_succ _ | (rw [nat8 hl (Nat.le_refl _)];exact congrArg (Blk.row 4 1 len) (fsB_zero x).symm) | (rw [nat8 hl (Nat.le_refl _)]) | rfl) ?_));done)));(iterate 3 (focus exact rfl));(rintro a q1))
    | ((have _q:=q1);(fail_if_success (have _q:=o1));refine LoopP.times 3 ?_;have o1:=trivial)
    | ((have _q:=o1);(fail_if_success (have _q:=q2));refine LoopP.mk (Nat) (fun k=>k≤len∧∀ j,j<k→badA x len m v2 j=false) ((fun k=>mkS (Tryd.f15).ntmps [(3,.one (.ptr 4 0)),(9,.one (.ptr 10 0)),(33,.agg [.clo 39 [(4,0),(5,0),(6,0)],.clo 41 [(4,0),(10,0)]]),(11,.one (.clo 39 [(4,0),(5,0),(6,0)])),(34,.one (.b64 true 0#64)),(38,.one (.b64 true (BitVec.ofNat 64 len))),(39,iN k)] [(10,.cells 23 [.rsl 31 len]),(31,.row 4 1 len (bF (fsB x a))),(6,.cells 4 [.bool v2]),(5,.cells 3 [.b64 true m]),(4,.cells 22 [.slc 0 0 len cap]),(0,.ro T [.seg 5 len (inF x)])])) (fun k=>len - k) ⟨0,⟨Nat.zero_le _,fun j hj=>absurd hj (by omega)⟩,⟨?_,?_,?_,?_,?_⟩⟩ ?_<;>(try subst hv2);(iterate 2 (focus ((repeat' ((conv=>whnf);first | exact trivial | refine Both.mk (by first | with_reducible rfl | exact iN_succ _ | (rw [nat8 hl (Nat.le_refl _)]) | rfl) ?_));done)));(iterate 3 (focus exact rfl));(rintro k2 q2))
    | ((have _q:=q2);(fail_if_success (have _q:=q3));refine LoopP.mk (Nat) (fun k=>k≤len∧∀ j,j<k→badW x len j=false) ((fun k=>mkS (Tryd.f15).ntmps [(3,.one (.ptr 4 0)),(9,.one (.ptr 10 0)),(33,.agg [.clo 39 [(4,0),(5,0),(6,0)],.clo 41 [(4,0),(10,0)]]),(11,.one (.clo 41 [(4,0),(10,0)])),(34,.one (.b64 true (0#64 + 1#64))),(38,.one (.b64 true (BitVec.ofNat 64 len))),(39,iN k)] [(10,.cells 23 [.rsl 31 len]),(31,.row 4 1 len (bF (fsB x a))),(6,.cells 4 [.bool v3]),(5,.cells 3 [.b64 true m]),(4,.cells 22 [.slc 0 0 len cap]),(0,.ro T [.seg 5 len (inF x)])])) (fun k=>len - k) ⟨0,⟨Nat.zero_le _,fun j hj=>absurd hj (by omega)⟩,⟨?_,?_,?_,?_,?_⟩⟩ ?_<;>(try subst hv3);(iterate 2 (focus ((repeat' ((conv=>whnf);first | exact trivial | refine Both.mk (by first | with_reducible rfl | exact iN_succ _ | (rw [nat8 hl (Nat.le_refl _)]) | rfl) ?_));done)));(iterate 3 (focus exact rfl));(rintro k3 q3))
    | ((have _q:=q3);(fail_if_success (have _q:=q4));refine LoopP.mk (Nat) (fun k=>k≤len∧∀ j,j<k→(!hf x j&& !reachB x j)=false) ((fun k=>mkS (Tryd.f15).ntmps [(9,.one (.ptr 10 0)),(14,.one (.ptr 15 0)),(63,.one (.b64 true (BitVec.ofNat 64 len))),(64,iN k)] [(59,.row 4 1 len (bF (reachB x))),(16,.cells 101 [.clo 43 [(15,0),(4,0),(16,0)]]),(15,.cells 23 [.rsl 59 len]),(10,.cells 23 [.rsl 31 len]),(31,.row 4 1 len (bF (fsB x a))),(6,.cells 4 [.bool v4]),(5,.cells 3 [.b64 true m]),(4,.cells 22 [.slc 0 0 len cap]),(0,.ro T [.seg 5 len (inF x)])])) (fun k=>len - k) ⟨0,⟨Nat.zero_le _,fun j hj=>absurd hj (by omega)⟩,⟨?_,?_,?_,?_,?_⟩⟩ ?_<;>(try subst hv4);(iterate 2 (focus ((repeat' ((conv=>whnf);first | exact trivial | refine Both.mk (by first | with_reducible rfl | exact iN_succ _ | (rw [nat8 hl (Nat.le_refl _)]) | exact congrArg (fun g=>Blk.row 4 1 len (bF g)) (vis_end' x (ways_of hl q3.2) h0 h192) | rfl) ?_));done)));(iterate 3 (focus exact rfl));(rintro k4 q4))))
 all_goals first
  | (with_reducible apply Ob.mk;kernel_rfl)
  | ((with_reducible apply Ob.mk);show len<9223372036854775808;omega)
  | ((with_reducible apply Ob.mk);exact ⟨rfl,(by rw [nat8 hl (Nat.le_refl _)];omega)⟩)
  | ((with_reducible apply Ob.mk);exact ix_ofNat (by omega) (by rw [nat8 hl (Nat.le_refl _)];exact first_lt hl q1.2 (by with_reducible assumption)))
  | ((with_reducible apply Ob.mk);exact (ix_ofNat (by have:=q1.2;omega) (first_lt hl q1.2 (by with_reducible assumption))))
  | ((with_reducible apply Ob.mk);exact (ix_ofNat (by have:=q1.2;omega) (first_lt hl q1.2 (by with_reducible assumption))).2)
  | ((conv=>whnf);refine ⟨a + szN (x a).o,first_go hl q1 (first_lt hl q1.2 (by with_reducible assumption)),(by have:=sz_pos (x a).o;have:=first_lt hl q1.2 (by with_reducible assumption);show len + 2 - (a + szN (x a).o)<len + 2 - a;omega),⟨?_,?_,?_,?_,?_⟩⟩;(iterate 2 (focus ((repeat' ((conv=>whnf);first | exact trivial | refine Both.mk (by first | with_reducible rfl | exact iN_succ _ | exact first_nx (nat_ofNat (by have:=q1.2;omega)) | exact congrArg (Blk.row 4 1 len) (fsB_go x (nat_ofNat (by have:=q1.2;omega)) q1.1) | rfl) ?_));done)));(iterate 3 (focus exact rfl)))
  | ((with_reducible apply Ob.mk);exact (show 0≤(0#64).toInt∧(0#64).toNat<2 by decide))
  | ((with_reducible apply Ob.mk);exact (show 0≤(0#64 + 1#64).toInt∧(0#64 + 1#64).toNat<2 by decide))
  | ((with_reducible apply Ob.mk);exact ix8k hl q4.1 (by with_reducible assumption))
  | ((with_reducible apply Ob.mk);exact (ix8k hl q4.1 (by with_reducible assumption)).2)
  | ((with_reducible apply Ob.mk);exact ⟨Nat.le_refl _,hl,rfl,(ix8k hl q4.1 (by with_reducible assumption)).2⟩)
  | ((with_reducible apply Ob.mk);exact ix8k hl q3.1 (by with_reducible assumption))
  | ((with_reducible apply Ob.mk);exact (ix8k hl q3.1 (by with_reducible assumption)).2)
  | ((with_reducible apply Ob.mk);exact ⟨Nat.le_refl _,hl,rfl,(ix8k hl q3.1 (by with_reducible assumption)).2⟩)
  | ((with_reducible apply Ob.mk);exact ix8k hl q2.1 (by with_reducible assumption))
  | ((with_reducible apply Ob.mk);exact (ix8k hl q2.1 (by with_reducible assumption)).2)
  | ((with_reducible apply Ob.mk);exact ⟨Nat.le_refl _,hl,rfl,(ix8k hl q2.1 (by with_reducible assumption)).2⟩)
  | ((conv=>whnf);refine ⟨k2 + 1,⟨(lt8k hl q2.1 (by with_reducible assumption)),more q2.2 (by first | exact sk_A hl ea (lt8k hl q2.1 (by with_reducible assumption)) (by with_reducible assumption) | exact ok_A' (fst_of hl ea (lt8k hl q2.1 (by with_reducible assumption)) (by with_reducible assumption)) (by with_reducible assumption))⟩,(by have:=lt8k hl q2.1 (by with_reducible assumption);show len - (k2 + 1)<len - k2;omega),⟨?_,?_,?_,?_,?_⟩⟩;(iterate 2 (focus ((repeat' ((conv=>whnf);first | exact trivial | refine Both.mk (by first | with_reducible rfl | exact iN_succ _ | rfl) ?_));done)));(iterate 3 (focus exact rfl)))
  | ((conv=>whnf);exact ans_of (chk_A hn (lt8k hl q2.1 (by with_reducible assumption)) (ok_A' (fst_of hl ea (lt8k hl q2.1 (by with_reducible assumption)) (by with_reducible assumption)) (by with_reducible assumption)) q2.2))
  | ((conv=>whnf);refine ⟨k3 + 1,⟨(lt8k hl q3.1 (by with_reducible assumption)),more q3.2 (by first | exact sk_W hl ea (lt8k hl q3.1 (by with_reducible assumption)) (by with_reducible assumption) | exact ok_W (fst_of hl ea (lt8k hl q3.1 (by with_reducible assumption)) (by with_reducible assumption)) (by first | exact way40a (by with_reducible assumption) (by with_reducible assumption) | exact way40b (by with_reducible assumption) (by with_reducible assumption) | exact way41 hl ea (by with_reducible assumption) (by with_reducible assumption) (by with_reducible assumption) (by with_reducible assumption) | exact way43 (by (first | exact jok_a (by with_reducible assumption) | exact jok_b hl ea (by with_reducible assumption) (by with_reducible assumption) (by with_reducible assumption) (by with_reducible assumption))) (by with_reducible assumption) (by with_reducible assumption) (by with_reducible assumption) | exact way0a (by (first | exact jok_a (by with_reducible assumption) | exact jok_b hl ea (by with_reducible assumption) (by with_reducible assumption) (by with_reducible assumption) (by with_reducible assumption))) (by with_reducible assumption) | exact way0b (by (first | exact jok_a (by with_reducible assumption) | exact jok_b hl ea (by with_reducible assumption) (by with_reducible assumption) (by with_reducible assumption) (by with_reducible assumption))) (by with_reducible assumption) | exact way0c (by (first | exact jok_a (by with_reducible assumption) | exact jok_b hl ea (by with_reducible assumption) (by with_reducible assumption) (by with_reducible assumption) (by with_reducible assumption))) (by with_reducible assumption)) rfl)⟩,(by have:=lt8k hl q3.1 (by with_reducible assumption);show len - (k3 + 1)<len - k3;omega),⟨?_,?_,?_,?_,?_⟩⟩;(iterate 2 (focus ((repeat' ((conv=>whnf);first | exact trivial | refine Both.mk (by first | with_reducible rfl | exact iN_succ _ | rfl) ?_));done)));(iterate 3 (focus exact rfl)))
  | ((conv=>whnf);exact ans_W hn q2.2 (lt8k hl q3.1 (by with_reducible assumption)) (fst_of hl ea (lt8k hl q3.1 (by with_reducible assumption)) (by with_reducible assumption)) (by first | exact way40a (by with_reducible assumption) (by with_reducible assumption) | exact way40b (by with_reducible assumption) (by with_reducible assumption) | exact way41 hl ea (by with_reducible assumption) (by with_reducible assumption) (by with_reducible assumption) (by with_reducible assumption) | exact way43 (by (first | exact jok_a (by with_reducible assumption) | exact jok_b hl ea (by with_reducible assumption) (by with_reducible assumption) (by with_reducible assumption) (by with_reducible assumption))) (by with_reducible assumption) (by with_reducible assumption) (by with_reducible assumption) | exact way0a (by (first | exact jok_a (by with_reducible assumption) | exact jok_b hl ea (by with_reducible assumption) (by with_reducible assumption) (by with_reducible assumption) (by with_reducible assumption))) (by with_reducible assumption) | exact way0b (by (first | exact jok_a (by with_reducible assumption) | exact jok_b hl ea (by with_reducible assumption) (by with_reducible assumption) (by with_reducible assumption) (by with_reducible assumption))) (by with_reducible assumption) | exact way0c (by (first | exact jok_a (by with_reducible assumption) | exact jok_b hl ea (by with_reducible assumption) (by with_reducible assumption) (by with_reducible assumption) (by with_reducible assumption))) (by with_reducible assumption)) rfl q3.2)
  | ((with_reducible apply Ob.mk);exact to_in hl (by with_reducible assumption) (by with_reducible assumption))
  | ((with_reducible apply Ob.mk);exact (to_in hl (by with_reducible assumption) (by with_reducible assumption)).2)
  | ((conv=>whnf);refine ⟨k4 + 1,⟨(lt8k hl q4.1 (by with_reducible assumption)),more q4.2 (by first | exact sk_R hl ea (lt8k hl q4.1 (by with_reducible assumption)) (by with_reducible assumption) | exact ok_R hl (lt8k hl q4.1 (by with_reducible assumption)) (by with_reducible assumption))⟩,(by have:=lt8k hl q4.1 (by with_reducible assumption);show len - (k4 + 1)<len - k4;omega),⟨?_,?_,?_,?_,?_⟩⟩;(iterate 2 (focus ((repeat' ((conv=>whnf);first | exact trivial | refine Both.mk (by first | with_reducible rfl | exact iN_succ _ | rfl) ?_));done)));(iterate 3 (focus exact rfl)))
  | ((conv=>whnf);exact ans_of (chk_R hn q2.2 q3.2 (lt8k hl q4.1 (by with_reducible assumption)) (bad_R hl ea (lt8k hl q4.1 (by with_reducible assumption)) (by with_reducible assumption) (by with_reducible assumption)) q4.2))
  | ((conv=>whnf);exact ans_of (chk_0 hn q2.2 q3.2 q4.2))
  | ((with_reducible apply Ob.mk);exact ⟨⟨rfl,rfl,rfl,rfl,rfl,rfl⟩,⟨rfl,rfl,rfl,rfl,rfl⟩,⟨rfl,rfl,rfl,rfl⟩,⟨rfl,nat8 hl (Nat.le_refl _),rfl,rfl,rfl,rfl,nat8 hl (Nat.le_refl _),rfl⟩,rfl,rfl,⟨ways_of hl q3.2,h0,rfl,(by show cnt (fun _=>false) len≤192;rw [cnt_none];exact h192)⟩⟩)
  | ((with_reducible apply Ob.mk);exact ⟨rfl,(by rw [nat8 hl (Nat.le_refl _)];omega)⟩)
  | (with_reducible apply Ob.mk;skip)
  | ((conv=>whnf);skip)
set_option maxRecDepth 100000 in
theorem CheckZ_ (w:Bool) (T:TypeId) (cap:Nat) (g:Nat→List PL) (m:BitVec 64) :
 FI Tryd.prog C_k Tryd.f15 1 [.one (.slc 0 0 0 cap),.one (.b64 true m),.one (.bool w)] [(0,.ro T [.seg 5 0 g])] (fun r _=>r= .tup [(false,[.b64 true 0#64]),(false,[.b64 true 3#64])]):=by
 cases w
 all_goals repeat' (first
  | (with_reducible apply Given.mk;intro h;(try simp only [BitVec.reduceBNe,BitVec.reduceBEq,reduceCtorEq,Bool.true_eq_false,Bool.false_eq_true] at h);(try exact absurd h (by decide)))
  | ((conv=>whnf);with_reducible apply Both.mk))
 all_goals first
  | (with_reducible apply Ob.mk;kernel_rfl)
  | ((with_reducible apply Ob.mk);first | decide | (show len<9223372036854775808;omega))
  | ((conv=>whnf);exact rfl)
  | ((conv=>whnf);skip)
set_option maxRecDepth 100000 in
theorem CheckN_ (w:Bool) (ad:Option Addr) (cap:Nat) (m:BitVec 64) :
 FI Tryd.prog C_k Tryd.f15 1 [.one (.raw (.slice ad 0 cap)),.one (.b64 true m),.one (.bool w)] [] (fun r _=>r= .tup [(false,[.b64 true 0#64]),(false,[.b64 true 3#64])]):=by
 cases w
 all_goals repeat' (first
  | (with_reducible apply Given.mk;intro h;(try simp only [BitVec.reduceBNe,BitVec.reduceBEq,reduceCtorEq,Bool.true_eq_false,Bool.false_eq_true] at h);(try exact absurd h (by decide)))
  | ((conv=>whnf);with_reducible apply Both.mk))
 all_goals first
  | (with_reducible apply Ob.mk;kernel_rfl)
  | ((with_reducible apply Ob.mk);first | decide | (show len<9223372036854775808;omega))
  | ((conv=>whnf);exact rfl)
  | ((conv=>whnf);skip)
set_option maxRecDepth 100000 in
theorem CheckB_ (w:Bool) (T:TypeId) (len cap:Nat) (x:IT) (m:BitVec 64) (hl:len≤8000) (f0:(BitVec.ofNat 64 len==0#64)=false) (f1:(cond w (64#64*3#64) 64#64).slt (BitVec.ofNat 64 len)=true) :
 FI Tryd.prog C_k Tryd.f15 1 [.one (.slc 0 0 len cap),.one (.b64 true m),.one (.bool w)] [(0,.ro T [.seg 5 len (inF x)])] (fun r _=>r= .tup [(false,[.b64 true 0#64]),(false,[.b64 true 3#64])]):=by
 cases w
 all_goals simp only [cond_true,cond_false] at f1
 all_goals repeat' (first
  | (with_reducible apply Given.mk;intro h;(try simp only [f0,f1,BitVec.reduceBNe,BitVec.reduceBEq,reduceCtorEq,Bool.true_eq_false,Bool.false_eq_true] at h);(try exact absurd h (by decide)))
  | ((conv=>whnf);with_reducible apply Both.mk))
 all_goals first
  | (with_reducible apply Ob.mk;kernel_rfl)
  | ((with_reducible apply Ob.mk);first | decide | (show len<9223372036854775808;omega))
  | ((conv=>whnf);exact rfl)
  | ((conv=>whnf);skip)
noncomputable def sq_chk (len:Nat) (g:Nat→List PL) (rest:List AV):Option (Cond×AV):=match rest with
 | [.one (.b64 true m),.one (.bool w)]=>some (Cond.p (len≤8000∧(len=0∨g=inF (inOf g))),ansC (inOf g) len m w)
 | _=>none
theorem ans_L {x:IT} {n:Nat} {m:BitVec 64} {w:Bool} (h:n=0∨mostN w<n):AV.tup [(false,[.b64 true 0#64]),(false,[.b64 true 3#64])]=ansC x n m w:=ans_of (chk_L h)
theorem len_zero {n:Nat} (hl:n≤8000) (h0:n≠0):(BitVec.ofNat 64 n==0#64)=false:=by
 rw [beq_eq_false_iff_ne]
 intro e
 have:=congrArg BitVec.toNat e
 rw [nat_ofNat (by omega)] at this
 exact h0 this
set_option maxRecDepth 100000 in
theorem e_Check:EntryM Tryd.prog anyWorld 15 (spS 5 sq_chk):=by
 refine .of_slice CI_k (by kernel_rfl) Tryd.func15 (by kernel_rfl) (by kernel_rfl) (fun len g rest c v h hc=> ?_) (fun rest c v h hc ad cap=> ?_)
 · unfold sq_chk at h
   split at h
   · rename_i m w
     cases h
     obtain ⟨h1,h2⟩:=hc
     refine ⟨rfl,rfl,fun T cap=> ?_⟩
     by_cases e:len=0
     · subst e
       rw [← ans_L (x:=inOf g) (m:=m) (w:=w) (.inl rfl)]
       exact CheckZ_ w T cap g m
     · replace h2:=h2.resolve_left e
       generalize inOf g=x at h2
       subst h2
       have f0:(BitVec.ofNat 64 len==0#64)=false:=len_zero h1 e
       have g1:=slt_nat (a:=mostN w) (b:=len) (by cases w<;>decide) (by omega)
       by_cases hb:mostN w<len
       · rw [← ans_L (x:=x) (m:=m) (w:=w) (.inr hb)]
         rw [decide_eq_true hb] at g1
         exact CheckB_ w T len cap x m h1 f0 (by cases w<;>exact g1)
       · rw [decide_eq_false hb] at g1
         have hm:mostN w≤192:=by cases w<;>decide
         have hn:¬ (len=0∨mostN w<len):=fun h=>h.elim e hb
         exact Check_ w T len cap x m h1 (by omega) (by omega) hn f0 (by cases w<;>exact g1)
   · cases h
 · unfold sq_chk at h
   split at h
   · rename_i m w
     cases h
     rw [← ans_L (x:=inOf fun _=>[]) (m:=m) (w:=w) (.inl rfl)]
     exact CheckN_ w ad cap m
   · cases h
end Go.Proofs.YthkgakelgdncjaaDoor
