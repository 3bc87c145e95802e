/- Chapter 23: fenced's contract. Conditions: as typed. -/
import Derived.Test.YthkgakelgdncjaaDoorUp
namespace Go.Proofs.YthkgakelgdncjaaDoor
open Go.Ep Go.RowKit
set_option linter.unusedVariables false
theorem bnd3 (k:Nat):bndK k 3≤3:=by
 unfold bndK
 split
 · rename_i h;exact Nat.le_of_ble_eq_true h
 · exact Nat.le_refl _
theorem fen_g (z:Nat) (ps:List PL) (h0:cutF z ps 0=inF (inOf (cutF z ps)) 0) (h1:cutF z ps 1=inF (inOf (cutF z ps)) 1) (h2:cutF z ps 2=inF (inOf (cutF z ps)) 2) (h3:cutF z ps 3=inF (inOf (cutF z ps)) 3):cutN 4 z ps=inF (inOf (cutN 4 z ps)):=by
 have key:∀ j,j≤3→cutF z ps j=inF (inOf (cutF z ps)) j:=fun j hj=>by
  rcases (by omega:j=0∨j=1∨j=2∨j=3) with rfl | rfl | rfl | rfl
  · exact h0
  · exact h1
  · exact h2
  · exact h3
 exact funext fun k=>key _ (bnd3 k)
theorem mrg_len (c:Prop) [Decidable c]:∀ (p:Nat) (vs xs:List PL),(mergeP c p vs xs).length=xs.length
 | _,_,[]=>by simp [mergeP]
 | 0,[],x::xs=>by simp [mergeP]
 | 0,v::vs,x::xs=>by simp [mergeP,mrg_len c 0 vs xs]
 | p + 1,vs,x::xs=>by simp [mergeP,mrg_len c p vs xs]
theorem join_len {z n:Nat} {f g:Nat→List PL} (hf:∀ j,(f j).length=z):∀ j,(joinF n f g j).length=z:=fun j=>by
 unfold joinF
 rw [mrg_len]
 exact hf j
theorem four {f:Nat→Bool} (h0:f 0=false) (h1:f 1=false) (h2:f 2=false) (h3:f 3=false):∀ j,j<4→f j=false:=fun j hj=>by
 rcases (by omega:j=0∨j=1∨j=2∨j=3) with rfl | rfl | rfl | rfl
 · exact h0
 · exact h1
 · exact h2
 · exact h3
theorem chk_no {x:IT} {m:BitVec 64} (a0:badA x 4 m false 0=false) (a1:badA x 4 m false 1=false) (a2:badA x 4 m false 2=false) (a3:badA x 4 m false 3=false)
 (b0:badW x 4 0=false) (b1:badW x 4 1=false) (b2:badW x 4 2=false) (b3:badW x 4 3=false)
 (s1:List.elem 1 (succ x 0)=true) (s2:List.elem 2 (succ x 1)=true) (s3:List.elem 3 (succ x 2)=true) (h:((chk4 x 4 m false).2 != 0#64)=true):False:=by
 have r0:Reach x 0:= .zero
 have r1:Reach x 1:= .step r0 (List.mem_of_elem_eq_true s1)
 have r2:Reach x 2:= .step r1 (List.mem_of_elem_eq_true s2)
 have r3:Reach x 3:= .step r2 (List.mem_of_elem_eq_true s3)
 have g:∀ p,Reach x p→(!hf x p&& !reachB x p)=false:=fun p hp=>by rw [(reachB_iff x p).2 hp];simp
 have e:chk4 x 4 m false=(0#64,0#64):=by
  unfold chk4
  rw [if_neg (by decide),fstN_none (four a0 a1 a2 a3),fstN_none (four b0 b1 b2 b3),fstN_none (four (g 0 r0) (g 1 r1) (g 2 r2) (g 3 r3))]
 rw [e] at h
 exact absurd h (by decide)
set_option maxRecDepth 100000 in
set_option maxHeartbeats 8000000 in
theorem fen_walk:F Tryd.prog C_f Tryd.f6 [] (fun r=>r= .one (.bool true)):=by
 repeat' (first
  | ((with_reducible apply Given.mk);intro h;first | exact absurd h (by decide) | exact (chk_no (by kernel_rfl) (by kernel_rfl) (by kernel_rfl) (by kernel_rfl) (by kernel_rfl) (by kernel_rfl) (by kernel_rfl) (by kernel_rfl) (by kernel_rfl) (by kernel_rfl) (by kernel_rfl) h).elim | skip)
  | ((conv=>whnf);first | with_reducible apply Both.mk | refine LoopP.times 9 ?_))
 all_goals first
  | (with_reducible apply Ob.mk;exact ⟨Nat.le_refl _,(by decide),.inr (fen_g _ _ (by kernel_rfl) (by kernel_rfl) (by kernel_rfl) (by kernel_rfl))⟩)
  | (with_reducible apply Ob.mk;exact ⟨Nat.le_refl _,(by decide),fen_g _ _ (by kernel_rfl) (by kernel_rfl) (by kernel_rfl) (by kernel_rfl)⟩)
  | (with_reducible apply Ob.mk;exact ⟨Nat.le_refl _,(by decide),fen_g _ _ (by kernel_rfl) (by kernel_rfl) (by kernel_rfl) (by kernel_rfl),(by unfold TgOK;decide +kernel)⟩)
  | ((with_reducible apply Ob.mk);intro j;kernel_rfl)
  | ((with_reducible apply Ob.mk);refine ⟨rfl,?_,?_⟩<;>(repeat' (first | with_reducible apply join_len | (intro j;kernel_rfl))))
  | (with_reducible apply Ob.mk;decide)
  | (with_reducible apply Ob.mk;kernel_rfl)
  | (with_reducible apply Ob.mk;decide)
  | ((conv=>whnf);refine ⟨rfl⟩)
set_option maxRecDepth 100000 in
theorem e_fen:EntryOK Tryd.prog Gbar 6 sp_fen:=by
 refine .of_F C_f_ok (by kernel_rfl) Tryd.func6 (by kernel_rfl) (by kernel_rfl) (fun args c v h hc=> ?_)
 unfold sp_fen at h
 split at h
 · cases h
   exact ⟨rfl,rfl,fen_walk⟩
 · cases h
end Go.Proofs.YthkgakelgdncjaaDoor
