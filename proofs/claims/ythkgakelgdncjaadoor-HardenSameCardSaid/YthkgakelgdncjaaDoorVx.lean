/- HardenSame: what a helper's call does to the document's world: walks (01 maps). Conditions: as typed. -/
import Derived.Test.YthkgakelgdncjaaDoorVc
namespace Go.Proofs.YthkgakelgdncjaaDoor
open Go.Ep Go.RowKit
set_option linter.unusedVariables false
set_option linter.unusedSimpArgs false
set_option maxRecDepth 100000 in
set_option maxHeartbeats 64000000 in
theorem call_ex01 (nm:Nat) (de:Bool) (hn:nm=0∨nm=1) (c:WC) (s:WR) (h:s.ok c.cm c.dm) (id a0 a1 a2 a3 a4:BitVec 64):∃ a:CA c.cm c.dm,CallP nm de c s id a0 a1 a2 a3 a4 a.v a.e a.s:=by
 obtain ⟨pl,co,own,cm,dm,X,k0⟩:=c
 obtain ⟨r,k1,dk,ds,dn⟩:=s
 obtain ⟨R,hd,hd2⟩:=h
 have R:RgOK r cm:=R
 have tg:Tag nm de:=⟨trivial⟩
 rcases hn with rfl | rfl
 all_goals cases de
 all_goals simp only [CallP,wB,wU,List.length_cons,List.length_nil,Nat.reduceAdd,Nat.zero_add] at hd hd2 ⊢
 all_goals (try ((fail_if_success (have _q:Tag 0 _:=tg));(by_cases n0:a0=9437184#64)))
 all_goals (try subst n0)
 all_goals (try ((have _q:Tag 2 _:=tg);(by_cases n1:a0=9437185#64)))
 all_goals (try subst n1)
 all_goals repeat' (first
  | ((with_reducible refine ex_if (fun h=> ?_) (fun h=> ?_))<;>(try (first | exact absurd h (by decide) | with_reducible exact (w_lo0 (by with_reducible assumption) h).elim | with_reducible exact (w_lo1 (by with_reducible assumption) n0 h).elim | with_reducible exact (w_lo2 (by with_reducible assumption) n0 n1 h).elim)))
  | (with_reducible refine ex_ob ?_ ?_)
  | ((conv=>arg 1;ext a;whnf);first
    | ((with_reducible refine ex_if (fun h=> ?_) (fun h=> ?_))<;>(try (first | exact absurd h (by decide) | with_reducible exact (w_lo0 (by with_reducible assumption) h).elim | with_reducible exact (w_lo1 (by with_reducible assumption) n0 h).elim | with_reducible exact (w_lo2 (by with_reducible assumption) n0 n1 h).elim)))
    | (with_reducible refine ex_ob ?_ ?_)
    | with_reducible refine ex_lp (fun a=>LoopP.times 4) ?_))
 all_goals first
  | ((show Region.lexB _ _=true);kernel_rfl)
  | ((show Region.preF _ _=true);kernel_rfl)
  | ((conv=>arg 1;ext a;whnf);first
    | ((have _q:Tag 2 false:=tg);exact leaf_w rfl (fun _=>by first | exact rfl | (rw [updS];exact rfl)) (by first | exact ⟨R,hd,hd2⟩ | exact ⟨putR_ok (tx_sz R _ _) R,hd,hd2⟩ | exact ⟨R,dn_4 hd hd2 (by assumption),hd2⟩))
    | ((have _q:Tag 2 true:=tg);exact leaf_w (dk:=dk) (ds:=ds) (dn:=dn) rfl (fun _=>by first | exact rfl | (rw [updS];exact rfl)) (by first | exact ⟨R,hd,hd2⟩ | exact ⟨putR_ok (tx_sz R _ _) R,hd,hd2⟩ | exact ⟨R,dn_4 hd hd2 (by assumption),hd2⟩))
    | ((have _q:Tag _ false:=tg);exact leaf_w (k1:=k1) rfl (fun _=>by first | exact rfl | (rw [updS];exact rfl)) (by first | exact ⟨R,hd,hd2⟩ | exact ⟨putR_ok (tx_sz R _ _) R,hd,hd2⟩ | exact ⟨R,dn_4 hd hd2 (by assumption),hd2⟩))
    | ((have _q:Tag _ true:=tg);exact leaf_w (k1:=k1) (dk:=dk) (ds:=ds) (dn:=dn) rfl (fun _=>by first | exact rfl | (rw [updS];exact rfl)) (by first | exact ⟨R,hd,hd2⟩ | exact ⟨putR_ok (tx_sz R _ _) R,hd,hd2⟩ | exact ⟨R,dn_4 hd hd2 (by assumption),hd2⟩)))
  | ((try simp only [rgOf_rgF]);with_reducible first | exact ⟨Nat.le_refl _,trivial,R⟩ | exact ⟨Nat.le_refl _,trivial,R,tx_sz R _ _⟩ | exact tx_sz R _ _ | exact ⟨Nat.le_refl _,rfl,R⟩ | exact ⟨Nat.le_refl _,rfl,R,tx_sz R _ _⟩)
  | with_reducible exact dn_1 hd hd2 (by assumption)
  | with_reducible exact dn_3 hd hd2 (by assumption)
  | with_reducible exact dn_2 hd hd2 (by assumption)
  | (with_reducible exact R)
  | (refine ⟨?_,rfl⟩;decide)
  | decide
  | omega
  | skip
end Go.Proofs.YthkgakelgdncjaaDoor
