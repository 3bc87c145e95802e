/- HardenSame: S.call of the document's interpreter: walks. Conditions: as typed. -/
import Derived.Test.YthkgakelgdncjaaDoorVg
namespace Go.Proofs.YthkgakelgdncjaaDoor
open Go.Ep Go.RowKit
set_option linter.unusedVariables false
set_option linter.unusedSimpArgs false
set_option maxRecDepth 100000 in
set_option maxHeartbeats 64000000 in
theorem scall_ex0 (nm:Nat) (de:Bool) (hn:nm=0) (c:WC) (m:MR) (s:WR) (h:s.ok c.cm (dmV de c.dm)) (hc:c.ok) (id:BitVec 64):∃ a:SA c.cm (dmV de c.dm),∀ vs:Nat→Nat→Value,SCP nm de c m s id a.e a.m a.s vs:=by
 obtain ⟨pl,co,own,cm,dm,X,k0⟩:=c
 obtain ⟨r,k1,dk,ds,dn⟩:=s
 obtain ⟨R,H,T,W,D⟩:=m
 obtain ⟨RM,hd,hd2⟩:=h
 have RM:RgOK r cm:=RM
 obtain ⟨RO,OW⟩:=hc
 have tg:Tag nm de:=⟨trivial⟩
 obtain ⟨x0,hx0⟩:∃ x,x=aV R H 1:=⟨_,rfl⟩
 obtain ⟨x1,hx1⟩:∃ x,x=aV R H 2:=⟨_,rfl⟩
 obtain ⟨x2,hx2⟩:∃ x,x=aV R H 3:=⟨_,rfl⟩
 obtain ⟨x3,hx3⟩:∃ x,x=aV R H 4:=⟨_,rfl⟩
 obtain ⟨x4,hx4⟩:∃ x,x=aV R H 5:=⟨_,rfl⟩
 obtain ⟨SH,hSH⟩:∃ SH:(Nat→Nat→Value)→Nat→S,SH=fun vs k=>scH nm de tg id x0 x1 x2 x3 x4 R H T W D ⟨pl,co,own,cm,dm,X,k0⟩ ⟨r,k1,dk,ds,dn⟩ vs k:=⟨_,rfl⟩
 subst hn
 all_goals cases de
 all_goals simp only [SCP,wB,wU,sC,scH,dmV,List.length_cons,List.length_nil,Nat.reduceAdd,Nat.zero_add] at hd hd2 hSH ⊢
 all_goals rcases id_cases id with hid | hid | hid | hid | ⟨ga,g7,g1,g2⟩
 all_goals repeat' (first
  | ((with_reducible refine ex_ifv (fun h=> ?_) (fun h=> ?_))<;>(try (first | exact absurd h (by decide) | with_reducible exact (w_lo0 (by assumption) h).elim | exact absurd h (by rw [hid];decide) | exact absurd (ga.symm.trans h) (by decide) | exact absurd (g7.symm.trans h) (by decide) | exact absurd (g1.symm.trans h) (by decide) | exact absurd (g2.symm.trans h) (by decide))))
  | (with_reducible refine ex_obv ?_ ?_)
  | (with_reducible apply Given.mk;intro h;(try exact absurd h (by decide)))
  | ((conv=>arg 1;ext a vs;whnf);first
    | ((with_reducible refine ex_ifv (fun h=> ?_) (fun h=> ?_))<;>(try (first | exact absurd h (by decide) | with_reducible exact (w_lo0 (by assumption) h).elim | exact absurd h (by rw [hid];decide) | exact absurd (ga.symm.trans h) (by decide) | exact absurd (g7.symm.trans h) (by decide) | exact absurd (g1.symm.trans h) (by decide) | exact absurd (g2.symm.trans h) (by decide))))
    | (with_reducible refine ex_obv ?_ ?_)
    | (((with_reducible refine ex_mk 5 SH ?_ ?_ ?_)<;>(try subst hSH));(focus (intro v;refine ⟨?_,?_,?_,?_,?_⟩;(iterate 2 (focus ((repeat' ((conv=>whnf);first | exact trivial | refine Both.mk (by first | with_reducible rfl | exact iN_succ _ | rfl | (rw [upd_u,upd_b,upd_b];rfl) | (refine blk_a ?_ ?_ ?_ ?_ ?_<;>first | rfl | exact ax_t hx0 h | exact ax_f hx0 h | exact ax_t hx1 h | exact ax_f hx1 h | exact ax_t hx2 h | exact ax_f hx2 h | exact ax_t hx3 h | exact ax_f hx3 h | exact ax_t hx4 h | exact ax_f hx4 h)) ?_));done)));(iterate 3 (focus exact rfl))));(focus (intro k hk M v a;rcases k with _ | _ | _ | _ | _ | k;rotate_right 1;(exact absurd hk (by omega)))))
    | (with_reducible refine ex_lpv (fun a v=>LoopP.times 6) ?_))
  | ((conv=>whnf);with_reducible apply Both.mk))
 all_goals first
  | ((with_reducible apply Ob.mk);first | decide | kernel_rfl | skip)
  | ((show Region.lexB _ _=true);kernel_rfl)
  | ((show Region.preF _ _=true);kernel_rfl)
  | ((show Region.midB _ _ _=true);kernel_rfl)
  | ((show Region.tailB _ _=true);kernel_rfl)
  | ((conv=>whnf);refine nx_of (by with_reducible assumption) (by decide) (by decide) ?_;refine ⟨?_,?_,?_,?_,?_⟩;(iterate 2 (focus ((repeat' ((conv=>whnf);first | exact trivial | refine Both.mk (by first | with_reducible rfl | exact iN_succ _ | rfl | (rw [upd_u,upd_b,upd_b];rfl) | (refine blk_a ?_ ?_ ?_ ?_ ?_<;>first | rfl | exact ax_t hx0 h | exact ax_f hx0 h | exact ax_t hx1 h | exact ax_f hx1 h | exact ax_t hx2 h | exact ax_f hx2 h | exact ax_t hx3 h | exact ax_f hx3 h | exact ax_t hx4 h | exact ax_f hx4 h)) ?_));done)));(iterate 3 (focus exact rfl)))
  | ((conv=>arg 1;ext a vs;whnf);first
    | ((have _q:Tag 2 false:=tg);exact leaf_s (fun _=>rfl) (fun _ _=>rfl) (by first | exact ⟨RM,hd,hd2⟩ | exact callR_ok ⟨RM,hd,hd2⟩ | exact ⟨(callR_ok ⟨RM,rfl,Nat.zero_le _⟩).1,hd,hd2⟩))
    | ((have _q:Tag 2 true:=tg);exact leaf_s (dk:=dk) (ds:=ds) (dn:=dn) (fun _=>rfl) (fun _ _=>rfl) (by first | exact ⟨RM,hd,hd2⟩ | exact callR_ok ⟨RM,hd,hd2⟩ | exact ⟨(callR_ok ⟨RM,rfl,Nat.zero_le _⟩).1,hd,hd2⟩))
    | ((have _q:Tag _ false:=tg);exact leaf_s (k1:=k1) (fun _=>rfl) (fun _ _=>rfl) (by first | exact ⟨RM,hd,hd2⟩ | exact callR_ok ⟨RM,hd,hd2⟩ | exact ⟨(callR_ok ⟨RM,rfl,Nat.zero_le _⟩).1,hd,hd2⟩))
    | ((have _q:Tag _ true:=tg);exact leaf_s (k1:=k1) (dk:=dk) (ds:=ds) (dn:=dn) (fun _=>rfl) (fun _ _=>rfl) (by first | exact ⟨RM,hd,hd2⟩ | exact callR_ok ⟨RM,hd,hd2⟩ | exact ⟨(callR_ok ⟨RM,rfl,Nat.zero_le _⟩).1,hd,hd2⟩)))
  | exact ⟨rfl,RM,hd,hd2⟩
  | exact ⟨rfl,RM,rfl,Nat.zero_le _⟩
  | exact ⟨by decide,OW,⟨rfl,rfl,rfl,rfl,rfl⟩,⟨rfl,rfl,RO⟩,trivial⟩
  | exact ⟨by decide,⟨rfl,rfl,rfl,rfl,rfl⟩,trivial⟩
  | with_reducible exact ix_h1 (by assumption) (by assumption)
  | with_reducible exact (ix_h1 (by assumption) (by assumption)).2
  | with_reducible exact ix_h2 (by assumption) (by assumption)
  | with_reducible exact (ix_h2 (by assumption) (by assumption)).2
  | decide
  | skip
end Go.Proofs.YthkgakelgdncjaaDoor
