/-
  Chapter 11: the bytes of an instruction, as the program's Encode tells them. Conditions: none.
-/
import Derived.Test.YtppankimieopiaaDoorCs

namespace Go.Proofs.YtppankimieopiaaDoor
open Go.Ep Go.RowKit
set_option linter.unusedVariables false
set_option linter.unusedSimpArgs false
abbrev by8 (v : BitVec 64) (k : Nat) : UInt8 := UInt8.ofBitVec ((v >>> k).setWidth 8)
abbrev s0 : ByteArray := ⟨#[]⟩
def bytes1 (v : BitVec 64) : ByteArray := ⟨⟨[by8 v 0]⟩⟩
def bytes4 (v : BitVec 64) : ByteArray := ⟨⟨[by8 v 0, by8 v 8, by8 v 16, by8 v 24]⟩⟩
def bytes8 (v : BitVec 64) : ByteArray := ⟨⟨[by8 v 0, by8 v 8, by8 v 16, by8 v 24, by8 v 32, by8 v 40, by8 v 48, by8 v 56]⟩⟩
def sp_Bytes : Sp
  | [.one (.b64 false v), .one (.b64 true n)] => match n.toNat with
    | 0 => some (Cond.t, .one (.str s0))
    | 1 => some (Cond.t, .one (.str (bytes1 v)))
    | 4 => some (Cond.t, .one (.str (bytes4 v)))
    | 8 => some (Cond.t, .one (.str (bytes8 v)))
    | _ => none
  | _ => none
set_option maxRecDepth 100000 in
set_option maxHeartbeats 4000000 in
theorem e_Bytes (G2 : World → Prop) (D2 : VData) (k2 : DataOK Tryd.prog G2 D2) (m : Nat → Nat) : EntryOK Tryd.prog (GN m G2) 45 sp_Bytes := by
  refine .of_F (CN_Valid k2 m) (by kernel_rfl) Tryd.func45 (by kernel_rfl) (by kernel_rfl) (fun args c v h hc => ?_)
  unfold sp_Bytes at h
  split at h
  · rename_i v n
    split at h
    · rename_i hn
      obtain rfl : n = 0#64 := BitVec.eq_of_toNat_eq hn
      cases h
      refine ⟨rfl, rfl, ?_⟩
      repeat' (first
        | (with_reducible apply Given.mk; intro h; (try exact absurd h (by decide)))
        | ((conv => whnf); first | with_reducible apply Both.mk | refine LoopP.times 9 ?_))
      all_goals first
        | (with_reducible apply Ob.mk; kernel_rfl)
        | (with_reducible apply Ob.mk; decide)
        | ((with_reducible apply Ob.mk); exact ⟨Nat.le_refl _, fun _ _ => rfl⟩)
        | ((conv => whnf); exact ⟨rfl⟩)
        | ((conv => whnf); skip)
    · rename_i hn
      obtain rfl : n = 1#64 := BitVec.eq_of_toNat_eq hn
      cases h
      refine ⟨rfl, rfl, ?_⟩
      repeat' (first
        | (with_reducible apply Given.mk; intro h; (try exact absurd h (by decide)))
        | ((conv => whnf); first | with_reducible apply Both.mk | refine LoopP.times 9 ?_))
      all_goals first
        | (with_reducible apply Ob.mk; kernel_rfl)
        | (with_reducible apply Ob.mk; decide)
        | ((with_reducible apply Ob.mk); exact ⟨Nat.le_refl _, fun _ _ => rfl⟩)
        | ((conv => whnf); exact ⟨rfl⟩)
        | ((conv => whnf); skip)
    · rename_i hn
      obtain rfl : n = 4#64 := BitVec.eq_of_toNat_eq hn
      cases h
      refine ⟨rfl, rfl, ?_⟩
      repeat' (first
        | (with_reducible apply Given.mk; intro h; (try exact absurd h (by decide)))
        | ((conv => whnf); first | with_reducible apply Both.mk | refine LoopP.times 9 ?_))
      all_goals first
        | (with_reducible apply Ob.mk; kernel_rfl)
        | (with_reducible apply Ob.mk; decide)
        | ((with_reducible apply Ob.mk); exact ⟨Nat.le_refl _, fun _ _ => rfl⟩)
        | ((conv => whnf); exact ⟨rfl⟩)
        | ((conv => whnf); skip)
    · rename_i hn
      obtain rfl : n = 8#64 := BitVec.eq_of_toNat_eq hn
      cases h
      refine ⟨rfl, rfl, ?_⟩
      repeat' (first
        | (with_reducible apply Given.mk; intro h; (try exact absurd h (by decide)))
        | ((conv => whnf); first | with_reducible apply Both.mk | refine LoopP.times 9 ?_))
      all_goals first
        | (with_reducible apply Ob.mk; kernel_rfl)
        | (with_reducible apply Ob.mk; decide)
        | ((with_reducible apply Ob.mk); exact ⟨Nat.le_refl _, fun _ _ => rfl⟩)
        | ((conv => whnf); exact ⟨rfl⟩)
        | ((conv => whnf); skip)
    · cases h
  · cases h
abbrev tb_Bytes (m : Nat → Nat) : List (Nat × Sp) := (45, sp_Bytes) :: tb_codec_Valid m
theorem C_Bytes (G2 : World → Prop) (D2 : VData) (k2 : DataOK Tryd.prog G2 D2) (m : Nat → Nat) : CSound Tryd.prog (GN m G2) (tab (DN m D2) (tb_Bytes m)) := (CN_Valid k2 m).cons (e_Bytes G2 D2 k2 m)
def mrB (a b c : BitVec 64) : ByteArray := ⟨⟨[⟨BitVec.signExtend 8 (a <<< (6#64).toNat ||| b.srem 8#64 <<< (3#64).toNat ||| c.srem 8#64)⟩]⟩⟩
def rxV (w : Bool) (a b : BitVec 64) : BitVec 8 := if w then BitVec.signExtend 8 (64#64 ||| a.sdiv 8#64 <<< (2#64).toNat ||| b.sdiv 8#64) ||| 8#8 else BitVec.signExtend 8 (64#64 ||| a.sdiv 8#64 <<< (2#64).toNat ||| b.sdiv 8#64)
def rxB (always w : Bool) (a b : BitVec 64) : ByteArray := if rxV w a b == 64#8 then (if always then ⟨⟨[⟨rxV w a b⟩]⟩⟩ else s0) else ⟨⟨[⟨rxV w a b⟩]⟩⟩
def sp_modrm : Sp
  | [.one (.b64 true a), .one (.b64 true b), .one (.b64 true c)] => some (Cond.t, .one (.str (mrB a b c)))
  | _ => none
set_option maxRecDepth 100000 in
set_option maxHeartbeats 16000000 in
theorem e_modrm (G2 : World → Prop) (D2 : VData) (k2 : DataOK Tryd.prog G2 D2) (m : Nat → Nat) : EntryOK Tryd.prog (GN m G2) 82 sp_modrm := by
  refine .of_F (C_Bytes G2 D2 k2 m) (by kernel_rfl) Tryd.func82 (by kernel_rfl) (by kernel_rfl) (fun args c v h hc => ?_)
  unfold sp_modrm at h
  split at h
  · rename_i a b c; cases h
    refine ⟨rfl, rfl, ?_⟩
    repeat' (first
      | (with_reducible apply Given.mk; intro h; (try exact absurd h (by decide)))
      | ((conv => whnf); with_reducible apply Both.mk))
    all_goals first
      | (with_reducible apply Ob.mk; kernel_rfl)
      | (with_reducible apply Ob.mk; decide)
      | ((conv => whnf); refine ⟨?_⟩; first | exact rfl | (simp_all [mrB]; done))
      | ((conv => whnf); skip)
  · cases h
abbrev tb_modrm (m : Nat → Nat) : List (Nat × Sp) := (82, sp_modrm) :: tb_Bytes m
theorem C_modrm (G2 : World → Prop) (D2 : VData) (k2 : DataOK Tryd.prog G2 D2) (m : Nat → Nat) : CSound Tryd.prog (GN m G2) (tab (DN m D2) (tb_modrm m)) := (C_Bytes G2 D2 k2 m).cons (e_modrm G2 D2 k2 m)
def sp_rex : Sp
  | [.agg [.b64 true k, .b64 true al, .b64 true cc, .b64 true sz, .bool w, .bool sh, .b64 true d, .b64 true s, .b32 true dp, .b32 true rl, .b64 true im], .one (.b64 true a), .one (.b64 true b)] => some (Cond.t, .one (.str (rxB (k == 14#64 && sz == 1#64) w a b)))
  | _ => none
set_option maxRecDepth 100000 in
set_option maxHeartbeats 16000000 in
theorem e_rex (G2 : World → Prop) (D2 : VData) (k2 : DataOK Tryd.prog G2 D2) (m : Nat → Nat) : EntryOK Tryd.prog (GN m G2) 43 sp_rex := by
  refine .of_F (C_modrm G2 D2 k2 m) (by kernel_rfl) Tryd.func43 (by kernel_rfl) (by kernel_rfl) (fun args c v h hc => ?_)
  unfold sp_rex at h
  split at h
  · rename_i k al cc sz w sh d s dp rl im a b; cases h
    refine ⟨rfl, rfl, ?_⟩
    repeat' (first
      | (with_reducible apply Given.mk; intro h; (try exact absurd h (by decide)))
      | ((conv => whnf); with_reducible apply Both.mk))
    all_goals first
      | (with_reducible apply Ob.mk; kernel_rfl)
      | (with_reducible apply Ob.mk; decide)
      | ((conv => whnf); refine ⟨?_⟩; first | with_reducible rfl | (simp_all [rxB, rxV]; done))
      | ((conv => whnf); skip)
  · cases h
abbrev tb_rex (m : Nat → Nat) : List (Nat × Sp) := (43, sp_rex) :: tb_modrm m
theorem C_rex (G2 : World → Prop) (D2 : VData) (k2 : DataOK Tryd.prog G2 D2) (m : Nat → Nat) : CSound Tryd.prog (GN m G2) (tab (DN m D2) (tb_rex m)) := (C_modrm G2 D2 k2 m).cons (e_rex G2 D2 k2 m)
def op1 (al cc sz : BitVec 64) (w sh : Bool) (d s : BitVec 64) (dp rl : BitVec 32) (im : BitVec 64) : ByteArray := ⟨⟨[137]⟩⟩
def op2 (al cc sz : BitVec 64) (w sh : Bool) (d s : BitVec 64) (dp rl : BitVec 32) (im : BitVec 64) : ByteArray := ⟨⟨[199]⟩⟩
def op3 (al cc sz : BitVec 64) (w sh : Bool) (d s : BitVec 64) (dp rl : BitVec 32) (im : BitVec 64) : ByteArray := ⟨⟨[⟨184#8 + BitVec.signExtend 8 (d.srem 8#64)⟩]⟩⟩
def op4 (al cc sz : BitVec 64) (w sh : Bool) (d s : BitVec 64) (dp rl : BitVec 32) (im : BitVec 64) : ByteArray := ⟨⟨[⟨BitVec.signExtend 8 (8#64 * al + 1#64)⟩]⟩⟩
def op5 (al cc sz : BitVec 64) (w sh : Bool) (d s : BitVec 64) (dp rl : BitVec 32) (im : BitVec 64) : ByteArray := ⟨⟨[129]⟩⟩
def op6 (al cc sz : BitVec 64) (w sh : Bool) (d s : BitVec 64) (dp rl : BitVec 32) (im : BitVec 64) : ByteArray := ⟨⟨[133]⟩⟩
def op7 (al cc sz : BitVec 64) (w sh : Bool) (d s : BitVec 64) (dp rl : BitVec 32) (im : BitVec 64) : ByteArray := ⟨⟨[247]⟩⟩
def op8 (al cc sz : BitVec 64) (w sh : Bool) (d s : BitVec 64) (dp rl : BitVec 32) (im : BitVec 64) : ByteArray := ⟨⟨[247]⟩⟩
def op9 (al cc sz : BitVec 64) (w sh : Bool) (d s : BitVec 64) (dp rl : BitVec 32) (im : BitVec 64) : ByteArray := ⟨⟨[247]⟩⟩
def op10 (al cc sz : BitVec 64) (w sh : Bool) (d s : BitVec 64) (dp rl : BitVec 32) (im : BitVec 64) : ByteArray := ⟨⟨[15, 175]⟩⟩
def op11 (al cc sz : BitVec 64) (w sh : Bool) (d s : BitVec 64) (dp rl : BitVec 32) (im : BitVec 64) : ByteArray := ⟨⟨[193]⟩⟩
def op12 (al cc sz : BitVec 64) (w sh : Bool) (d s : BitVec 64) (dp rl : BitVec 32) (im : BitVec 64) : ByteArray := ⟨⟨[211]⟩⟩
def op13 (al cc sz : BitVec 64) (w sh : Bool) (d s : BitVec 64) (dp rl : BitVec 32) (im : BitVec 64) : ByteArray := ldV sz
def op14 (al cc sz : BitVec 64) (w sh : Bool) (d s : BitVec 64) (dp rl : BitVec 32) (im : BitVec 64) : ByteArray := stqV sz
def op15 (al cc sz : BitVec 64) (w sh : Bool) (d s : BitVec 64) (dp rl : BitVec 32) (im : BitVec 64) : ByteArray := if sh = true then ⟨⟨[235]⟩⟩ else ⟨⟨[233]⟩⟩
def op16 (al cc sz : BitVec 64) (w sh : Bool) (d s : BitVec 64) (dp rl : BitVec 32) (im : BitVec 64) : ByteArray := if sh = true then ⟨⟨[⟨112#8 + BitVec.signExtend 8 cc⟩]⟩⟩ else catB ⟨⟨[15]⟩⟩ ⟨⟨[⟨128#8 + BitVec.signExtend 8 cc⟩]⟩⟩
def op17 (al cc sz : BitVec 64) (w sh : Bool) (d s : BitVec 64) (dp rl : BitVec 32) (im : BitVec 64) : ByteArray := ⟨⟨[⟨80#8 + BitVec.signExtend 8 (d.srem 8#64)⟩]⟩⟩
def op18 (al cc sz : BitVec 64) (w sh : Bool) (d s : BitVec 64) (dp rl : BitVec 32) (im : BitVec 64) : ByteArray := ⟨⟨[⟨88#8 + BitVec.signExtend 8 (d.srem 8#64)⟩]⟩⟩
def op19 (al cc sz : BitVec 64) (w sh : Bool) (d s : BitVec 64) (dp rl : BitVec 32) (im : BitVec 64) : ByteArray := ⟨⟨[195]⟩⟩
def op20 (al cc sz : BitVec 64) (w sh : Bool) (d s : BitVec 64) (dp rl : BitVec 32) (im : BitVec 64) : ByteArray := ⟨⟨[232]⟩⟩
def op21 (al cc sz : BitVec 64) (w sh : Bool) (d s : BitVec 64) (dp rl : BitVec 32) (im : BitVec 64) : ByteArray := ⟨⟨[15, 174, 232]⟩⟩
def opB (k al cc sz : BitVec 64) (w sh : Bool) (d s : BitVec 64) (dp rl : BitVec 32) (im : BitVec 64) : ByteArray := if k == 1#64 then op1 al cc sz w sh d s dp rl im else if k == 2#64 then op2 al cc sz w sh d s dp rl im else if k == 3#64 then op3 al cc sz w sh d s dp rl im else if k == 4#64 then op4 al cc sz w sh d s dp rl im else if k == 5#64 then op5 al cc sz w sh d s dp rl im else if k == 6#64 then op6 al cc sz w sh d s dp rl im else if k == 7#64 then op7 al cc sz w sh d s dp rl im else if k == 8#64 then op8 al cc sz w sh d s dp rl im else if k == 9#64 then op9 al cc sz w sh d s dp rl im else if k == 10#64 then op10 al cc sz w sh d s dp rl im else if k == 11#64 then op11 al cc sz w sh d s dp rl im else if k == 12#64 then op12 al cc sz w sh d s dp rl im else if k == 13#64 then op13 al cc sz w sh d s dp rl im else if k == 14#64 then op14 al cc sz w sh d s dp rl im else if k == 15#64 then op15 al cc sz w sh d s dp rl im else if k == 16#64 then op16 al cc sz w sh d s dp rl im else if k == 17#64 then op17 al cc sz w sh d s dp rl im else if k == 18#64 then op18 al cc sz w sh d s dp rl im else if k == 19#64 then op19 al cc sz w sh d s dp rl im else if k == 20#64 then op20 al cc sz w sh d s dp rl im else if k == 21#64 then op21 al cc sz w sh d s dp rl im else s0
def sp_opcode : Sp
  | [.agg [.b64 true k, .b64 true al, .b64 true cc, .b64 true sz, .bool w, .bool sh, .b64 true d, .b64 true s, .b32 true dp, .b32 true rl, .b64 true im]] => some (Cond.p (k.slt 1#64 = false ∧ (22#64).sle k = false), .one (.str (opB k al cc sz w sh d s dp rl im)))
  | _ => none
set_option maxRecDepth 100000 in
set_option maxHeartbeats 16000000 in
theorem e_opcode (G2 : World → Prop) (D2 : VData) (k2 : DataOK Tryd.prog G2 D2) (m : Nat → Nat) : EntryOK Tryd.prog (GN m G2) 44 sp_opcode := by
  refine .of_F (C_rex G2 D2 k2 m) (by kernel_rfl) Tryd.func44 (by kernel_rfl) (by kernel_rfl) (fun args c v h hc => ?_)
  unfold sp_opcode at h
  split at h
  · rename_i k al cc sz w sh d s dp rl im; cases h
    refine ⟨rfl, rfl, ?_⟩
    obtain ⟨hk1, hk2⟩ := hc
    rcases ks k with rfl | rfl | rfl | rfl | rfl | rfl | rfl | rfl | rfl | rfl | rfl | rfl | rfl | rfl | rfl | rfl | rfl | rfl | rfl | rfl | rfl | hk
    rotate_right 1
    · exfalso; rcases hk with hk | hk
      · rw [hk] at hk1; cases hk1
      · rw [hk] at hk2; cases hk2
    · clear hk1 hk2
      show F _ _ _ _ (fun r => r = .one (.str (op1 al cc sz w sh d s dp rl im)))
      repeat' (first
        | (with_reducible apply Given.mk; intro h; (try exact absurd h (by decide)))
        | ((conv => whnf); with_reducible apply Both.mk))
      all_goals first
        | (with_reducible apply Ob.mk; kernel_rfl)
        | (with_reducible apply Ob.mk; decide)
        | ((with_reducible apply Ob.mk); show 1 + 1 < 9223372036854775808; decide)
        | ((conv => whnf); refine ⟨?_⟩; first | exact rfl | (subst_vars; exact rfl))
        | ((conv => whnf); skip)
    · clear hk1 hk2
      show F _ _ _ _ (fun r => r = .one (.str (op2 al cc sz w sh d s dp rl im)))
      repeat' (first
        | (with_reducible apply Given.mk; intro h; (try exact absurd h (by decide)))
        | ((conv => whnf); with_reducible apply Both.mk))
      all_goals first
        | (with_reducible apply Ob.mk; kernel_rfl)
        | (with_reducible apply Ob.mk; decide)
        | ((with_reducible apply Ob.mk); show 1 + 1 < 9223372036854775808; decide)
        | ((conv => whnf); refine ⟨?_⟩; first | exact rfl | (subst_vars; exact rfl))
        | ((conv => whnf); skip)
    · clear hk1 hk2
      show F _ _ _ _ (fun r => r = .one (.str (op3 al cc sz w sh d s dp rl im)))
      repeat' (first
        | (with_reducible apply Given.mk; intro h; (try exact absurd h (by decide)))
        | ((conv => whnf); with_reducible apply Both.mk))
      all_goals first
        | (with_reducible apply Ob.mk; kernel_rfl)
        | (with_reducible apply Ob.mk; decide)
        | ((with_reducible apply Ob.mk); show 1 + 1 < 9223372036854775808; decide)
        | ((conv => whnf); refine ⟨?_⟩; first | exact rfl | (subst_vars; exact rfl))
        | ((conv => whnf); skip)
    · clear hk1 hk2
      show F _ _ _ _ (fun r => r = .one (.str (op4 al cc sz w sh d s dp rl im)))
      repeat' (first
        | (with_reducible apply Given.mk; intro h; (try exact absurd h (by decide)))
        | ((conv => whnf); with_reducible apply Both.mk))
      all_goals first
        | (with_reducible apply Ob.mk; kernel_rfl)
        | (with_reducible apply Ob.mk; decide)
        | ((with_reducible apply Ob.mk); show 1 + 1 < 9223372036854775808; decide)
        | ((conv => whnf); refine ⟨?_⟩; first | exact rfl | (subst_vars; exact rfl))
        | ((conv => whnf); skip)
    · clear hk1 hk2
      show F _ _ _ _ (fun r => r = .one (.str (op5 al cc sz w sh d s dp rl im)))
      repeat' (first
        | (with_reducible apply Given.mk; intro h; (try exact absurd h (by decide)))
        | ((conv => whnf); with_reducible apply Both.mk))
      all_goals first
        | (with_reducible apply Ob.mk; kernel_rfl)
        | (with_reducible apply Ob.mk; decide)
        | ((with_reducible apply Ob.mk); show 1 + 1 < 9223372036854775808; decide)
        | ((conv => whnf); refine ⟨?_⟩; first | exact rfl | (subst_vars; exact rfl))
        | ((conv => whnf); skip)
    · clear hk1 hk2
      show F _ _ _ _ (fun r => r = .one (.str (op6 al cc sz w sh d s dp rl im)))
      repeat' (first
        | (with_reducible apply Given.mk; intro h; (try exact absurd h (by decide)))
        | ((conv => whnf); with_reducible apply Both.mk))
      all_goals first
        | (with_reducible apply Ob.mk; kernel_rfl)
        | (with_reducible apply Ob.mk; decide)
        | ((with_reducible apply Ob.mk); show 1 + 1 < 9223372036854775808; decide)
        | ((conv => whnf); refine ⟨?_⟩; first | exact rfl | (subst_vars; exact rfl))
        | ((conv => whnf); skip)
    · clear hk1 hk2
      show F _ _ _ _ (fun r => r = .one (.str (op7 al cc sz w sh d s dp rl im)))
      repeat' (first
        | (with_reducible apply Given.mk; intro h; (try exact absurd h (by decide)))
        | ((conv => whnf); with_reducible apply Both.mk))
      all_goals first
        | (with_reducible apply Ob.mk; kernel_rfl)
        | (with_reducible apply Ob.mk; decide)
        | ((with_reducible apply Ob.mk); show 1 + 1 < 9223372036854775808; decide)
        | ((conv => whnf); refine ⟨?_⟩; first | exact rfl | (subst_vars; exact rfl))
        | ((conv => whnf); skip)
    · clear hk1 hk2
      show F _ _ _ _ (fun r => r = .one (.str (op8 al cc sz w sh d s dp rl im)))
      repeat' (first
        | (with_reducible apply Given.mk; intro h; (try exact absurd h (by decide)))
        | ((conv => whnf); with_reducible apply Both.mk))
      all_goals first
        | (with_reducible apply Ob.mk; kernel_rfl)
        | (with_reducible apply Ob.mk; decide)
        | ((with_reducible apply Ob.mk); show 1 + 1 < 9223372036854775808; decide)
        | ((conv => whnf); refine ⟨?_⟩; first | exact rfl | (subst_vars; exact rfl))
        | ((conv => whnf); skip)
    · clear hk1 hk2
      show F _ _ _ _ (fun r => r = .one (.str (op9 al cc sz w sh d s dp rl im)))
      repeat' (first
        | (with_reducible apply Given.mk; intro h; (try exact absurd h (by decide)))
        | ((conv => whnf); with_reducible apply Both.mk))
      all_goals first
        | (with_reducible apply Ob.mk; kernel_rfl)
        | (with_reducible apply Ob.mk; decide)
        | ((with_reducible apply Ob.mk); show 1 + 1 < 9223372036854775808; decide)
        | ((conv => whnf); refine ⟨?_⟩; first | exact rfl | (subst_vars; exact rfl))
        | ((conv => whnf); skip)
    · clear hk1 hk2
      show F _ _ _ _ (fun r => r = .one (.str (op10 al cc sz w sh d s dp rl im)))
      repeat' (first
        | (with_reducible apply Given.mk; intro h; (try exact absurd h (by decide)))
        | ((conv => whnf); with_reducible apply Both.mk))
      all_goals first
        | (with_reducible apply Ob.mk; kernel_rfl)
        | (with_reducible apply Ob.mk; decide)
        | ((with_reducible apply Ob.mk); show 1 + 1 < 9223372036854775808; decide)
        | ((conv => whnf); refine ⟨?_⟩; first | exact rfl | (subst_vars; exact rfl))
        | ((conv => whnf); skip)
    · clear hk1 hk2
      show F _ _ _ _ (fun r => r = .one (.str (op11 al cc sz w sh d s dp rl im)))
      repeat' (first
        | (with_reducible apply Given.mk; intro h; (try exact absurd h (by decide)))
        | ((conv => whnf); with_reducible apply Both.mk))
      all_goals first
        | (with_reducible apply Ob.mk; kernel_rfl)
        | (with_reducible apply Ob.mk; decide)
        | ((with_reducible apply Ob.mk); show 1 + 1 < 9223372036854775808; decide)
        | ((conv => whnf); refine ⟨?_⟩; first | exact rfl | (subst_vars; exact rfl))
        | ((conv => whnf); skip)
    · clear hk1 hk2
      show F _ _ _ _ (fun r => r = .one (.str (op12 al cc sz w sh d s dp rl im)))
      repeat' (first
        | (with_reducible apply Given.mk; intro h; (try exact absurd h (by decide)))
        | ((conv => whnf); with_reducible apply Both.mk))
      all_goals first
        | (with_reducible apply Ob.mk; kernel_rfl)
        | (with_reducible apply Ob.mk; decide)
        | ((with_reducible apply Ob.mk); show 1 + 1 < 9223372036854775808; decide)
        | ((conv => whnf); refine ⟨?_⟩; first | exact rfl | (subst_vars; exact rfl))
        | ((conv => whnf); skip)
    · clear hk1 hk2
      show F _ _ _ _ (fun r => r = .one (.str (op13 al cc sz w sh d s dp rl im)))
      repeat' (first
        | (with_reducible apply Given.mk; intro h; (try exact absurd h (by decide)))
        | ((conv => whnf); with_reducible apply Both.mk))
      all_goals first
        | (with_reducible apply Ob.mk; kernel_rfl)
        | (with_reducible apply Ob.mk; decide)
        | ((with_reducible apply Ob.mk); show 1 + 1 < 9223372036854775808; decide)
        | ((conv => whnf); refine ⟨?_⟩; first | exact rfl | (subst_vars; exact rfl))
        | ((conv => whnf); skip)
    · clear hk1 hk2
      show F _ _ _ _ (fun r => r = .one (.str (op14 al cc sz w sh d s dp rl im)))
      repeat' (first
        | (with_reducible apply Given.mk; intro h; (try exact absurd h (by decide)))
        | ((conv => whnf); with_reducible apply Both.mk))
      all_goals first
        | (with_reducible apply Ob.mk; kernel_rfl)
        | (with_reducible apply Ob.mk; decide)
        | ((with_reducible apply Ob.mk); show 1 + 1 < 9223372036854775808; decide)
        | ((conv => whnf); refine ⟨?_⟩; first | exact rfl | (subst_vars; exact rfl))
        | ((conv => whnf); skip)
    · clear hk1 hk2
      show F _ _ _ _ (fun r => r = .one (.str (op15 al cc sz w sh d s dp rl im)))
      repeat' (first
        | (with_reducible apply Given.mk; intro h; (try exact absurd h (by decide)))
        | ((conv => whnf); with_reducible apply Both.mk))
      all_goals first
        | (with_reducible apply Ob.mk; kernel_rfl)
        | (with_reducible apply Ob.mk; decide)
        | ((with_reducible apply Ob.mk); show 1 + 1 < 9223372036854775808; decide)
        | ((conv => whnf); refine ⟨?_⟩; first | exact rfl | (subst_vars; exact rfl))
        | ((conv => whnf); skip)
    · clear hk1 hk2
      show F _ _ _ _ (fun r => r = .one (.str (op16 al cc sz w sh d s dp rl im)))
      repeat' (first
        | (with_reducible apply Given.mk; intro h; (try exact absurd h (by decide)))
        | ((conv => whnf); with_reducible apply Both.mk))
      all_goals first
        | (with_reducible apply Ob.mk; kernel_rfl)
        | (with_reducible apply Ob.mk; decide)
        | ((with_reducible apply Ob.mk); show 1 + 1 < 9223372036854775808; decide)
        | ((conv => whnf); refine ⟨?_⟩; first | exact rfl | (subst_vars; exact rfl))
        | ((conv => whnf); skip)
    · clear hk1 hk2
      show F _ _ _ _ (fun r => r = .one (.str (op17 al cc sz w sh d s dp rl im)))
      repeat' (first
        | (with_reducible apply Given.mk; intro h; (try exact absurd h (by decide)))
        | ((conv => whnf); with_reducible apply Both.mk))
      all_goals first
        | (with_reducible apply Ob.mk; kernel_rfl)
        | (with_reducible apply Ob.mk; decide)
        | ((with_reducible apply Ob.mk); show 1 + 1 < 9223372036854775808; decide)
        | ((conv => whnf); refine ⟨?_⟩; first | exact rfl | (subst_vars; exact rfl))
        | ((conv => whnf); skip)
    · clear hk1 hk2
      show F _ _ _ _ (fun r => r = .one (.str (op18 al cc sz w sh d s dp rl im)))
      repeat' (first
        | (with_reducible apply Given.mk; intro h; (try exact absurd h (by decide)))
        | ((conv => whnf); with_reducible apply Both.mk))
      all_goals first
        | (with_reducible apply Ob.mk; kernel_rfl)
        | (with_reducible apply Ob.mk; decide)
        | ((with_reducible apply Ob.mk); show 1 + 1 < 9223372036854775808; decide)
        | ((conv => whnf); refine ⟨?_⟩; first | exact rfl | (subst_vars; exact rfl))
        | ((conv => whnf); skip)
    · clear hk1 hk2
      show F _ _ _ _ (fun r => r = .one (.str (op19 al cc sz w sh d s dp rl im)))
      repeat' (first
        | (with_reducible apply Given.mk; intro h; (try exact absurd h (by decide)))
        | ((conv => whnf); with_reducible apply Both.mk))
      all_goals first
        | (with_reducible apply Ob.mk; kernel_rfl)
        | (with_reducible apply Ob.mk; decide)
        | ((with_reducible apply Ob.mk); show 1 + 1 < 9223372036854775808; decide)
        | ((conv => whnf); refine ⟨?_⟩; first | exact rfl | (subst_vars; exact rfl))
        | ((conv => whnf); skip)
    · clear hk1 hk2
      show F _ _ _ _ (fun r => r = .one (.str (op20 al cc sz w sh d s dp rl im)))
      repeat' (first
        | (with_reducible apply Given.mk; intro h; (try exact absurd h (by decide)))
        | ((conv => whnf); with_reducible apply Both.mk))
      all_goals first
        | (with_reducible apply Ob.mk; kernel_rfl)
        | (with_reducible apply Ob.mk; decide)
        | ((with_reducible apply Ob.mk); show 1 + 1 < 9223372036854775808; decide)
        | ((conv => whnf); refine ⟨?_⟩; first | exact rfl | (subst_vars; exact rfl))
        | ((conv => whnf); skip)
    · clear hk1 hk2
      show F _ _ _ _ (fun r => r = .one (.str (op21 al cc sz w sh d s dp rl im)))
      repeat' (first
        | (with_reducible apply Given.mk; intro h; (try exact absurd h (by decide)))
        | ((conv => whnf); with_reducible apply Both.mk))
      all_goals first
        | (with_reducible apply Ob.mk; kernel_rfl)
        | (with_reducible apply Ob.mk; decide)
        | ((with_reducible apply Ob.mk); show 1 + 1 < 9223372036854775808; decide)
        | ((conv => whnf); refine ⟨?_⟩; first | exact rfl | (subst_vars; exact rfl))
        | ((conv => whnf); skip)
  · cases h
abbrev tb_opcode (m : Nat → Nat) : List (Nat × Sp) := (44, sp_opcode) :: tb_rex m
theorem C_opcode (G2 : World → Prop) (D2 : VData) (k2 : DataOK Tryd.prog G2 D2) (m : Nat → Nat) : CSound Tryd.prog (GN m G2) (tab (DN m D2) (tb_opcode m)) := (C_rex G2 D2 k2 m).cons (e_opcode G2 D2 k2 m)
def en1 (al cc sz : BitVec 64) (w sh : Bool) (d s : BitVec 64) (dp rl : BitVec 32) (im : BitVec 64) : ByteArray := catB (catB (catB (catB (s0) (rxB (1#64 == 14#64 && sz == 1#64) w s d)) (opB 1#64 al cc sz w sh d s dp rl im)) (mrB 3#64 s d)) (s0)
def en2 (al cc sz : BitVec 64) (w sh : Bool) (d s : BitVec 64) (dp rl : BitVec 32) (im : BitVec 64) : ByteArray := catB (catB (catB (catB (s0) (rxB (2#64 == 14#64 && sz == 1#64) w 0#64 d)) (opB 2#64 al cc sz w sh d s dp rl im)) (mrB 3#64 0#64 d)) (bytes4 im)
def en3 (al cc sz : BitVec 64) (w sh : Bool) (d s : BitVec 64) (dp rl : BitVec 32) (im : BitVec 64) : ByteArray := catB (catB (catB (catB (s0) (rxB (3#64 == 14#64 && sz == 1#64) w 0#64 d)) (opB 3#64 al cc sz w sh d s dp rl im)) (s0)) (bytes8 im)
def en4 (al cc sz : BitVec 64) (w sh : Bool) (d s : BitVec 64) (dp rl : BitVec 32) (im : BitVec 64) : ByteArray := catB (catB (catB (catB (s0) (rxB (4#64 == 14#64 && sz == 1#64) w s d)) (opB 4#64 al cc sz w sh d s dp rl im)) (mrB 3#64 s d)) (s0)
def en5 (al cc sz : BitVec 64) (w sh : Bool) (d s : BitVec 64) (dp rl : BitVec 32) (im : BitVec 64) : ByteArray := catB (catB (catB (catB (s0) (rxB (5#64 == 14#64 && sz == 1#64) w 0#64 d)) (opB 5#64 al cc sz w sh d s dp rl im)) (mrB 3#64 al d)) (bytes4 im)
def en6 (al cc sz : BitVec 64) (w sh : Bool) (d s : BitVec 64) (dp rl : BitVec 32) (im : BitVec 64) : ByteArray := catB (catB (catB (catB (s0) (rxB (6#64 == 14#64 && sz == 1#64) w s d)) (opB 6#64 al cc sz w sh d s dp rl im)) (mrB 3#64 s d)) (s0)
def en7 (al cc sz : BitVec 64) (w sh : Bool) (d s : BitVec 64) (dp rl : BitVec 32) (im : BitVec 64) : ByteArray := catB (catB (catB (catB (s0) (rxB (7#64 == 14#64 && sz == 1#64) w 0#64 d)) (opB 7#64 al cc sz w sh d s dp rl im)) (mrB 3#64 3#64 d)) (s0)
def en8 (al cc sz : BitVec 64) (w sh : Bool) (d s : BitVec 64) (dp rl : BitVec 32) (im : BitVec 64) : ByteArray := catB (catB (catB (catB (s0) (rxB (8#64 == 14#64 && sz == 1#64) w 0#64 d)) (opB 8#64 al cc sz w sh d s dp rl im)) (mrB 3#64 4#64 d)) (s0)
def en9 (al cc sz : BitVec 64) (w sh : Bool) (d s : BitVec 64) (dp rl : BitVec 32) (im : BitVec 64) : ByteArray := catB (catB (catB (catB (s0) (rxB (9#64 == 14#64 && sz == 1#64) w 0#64 d)) (opB 9#64 al cc sz w sh d s dp rl im)) (mrB 3#64 6#64 d)) (s0)
def en10 (al cc sz : BitVec 64) (w sh : Bool) (d s : BitVec 64) (dp rl : BitVec 32) (im : BitVec 64) : ByteArray := catB (catB (catB (catB (s0) (rxB (10#64 == 14#64 && sz == 1#64) w d s)) (opB 10#64 al cc sz w sh d s dp rl im)) (mrB 3#64 d s)) (s0)
def en11 (al cc sz : BitVec 64) (w sh : Bool) (d s : BitVec 64) (dp rl : BitVec 32) (im : BitVec 64) : ByteArray := catB (catB (catB (catB (s0) (rxB (11#64 == 14#64 && sz == 1#64) w 0#64 d)) (opB 11#64 al cc sz w sh d s dp rl im)) (mrB 3#64 al d)) (bytes1 im)
def en12 (al cc sz : BitVec 64) (w sh : Bool) (d s : BitVec 64) (dp rl : BitVec 32) (im : BitVec 64) : ByteArray := catB (catB (catB (catB (s0) (rxB (12#64 == 14#64 && sz == 1#64) w 0#64 d)) (opB 12#64 al cc sz w sh d s dp rl im)) (mrB 3#64 al d)) (s0)
def en13 (al cc sz : BitVec 64) (w sh : Bool) (d s : BitVec 64) (dp rl : BitVec 32) (im : BitVec 64) : ByteArray := catB (catB (catB (catB (s0) (rxB (13#64 == 14#64 && sz == 1#64) w d s)) (opB 13#64 al cc sz w sh d s dp rl im)) (catB (cond (s.srem 8#64 == 4#64) (catB (mrB 2#64 d s) ⟨⟨[36]⟩⟩) (mrB 2#64 d s)) (bytes4 (BitVec.signExtend 64 dp)))) (s0)
def en14 (al cc sz : BitVec 64) (w sh : Bool) (d s : BitVec 64) (dp rl : BitVec 32) (im : BitVec 64) : ByteArray := catB (catB (catB (catB (cond (sz == 2#64) ⟨⟨[102]⟩⟩ s0) (rxB (14#64 == 14#64 && sz == 1#64) w s d)) (opB 14#64 al cc sz w sh d s dp rl im)) (catB (cond (d.srem 8#64 == 4#64) (catB (mrB 2#64 s d) ⟨⟨[36]⟩⟩) (mrB 2#64 s d)) (bytes4 (BitVec.signExtend 64 dp)))) (s0)
def en15 (al cc sz : BitVec 64) (w sh : Bool) (d s : BitVec 64) (dp rl : BitVec 32) (im : BitVec 64) : ByteArray := catB (catB (catB (catB (s0) (rxB (15#64 == 14#64 && sz == 1#64) w 0#64 0#64)) (opB 15#64 al cc sz w sh d s dp rl im)) (cond sh (bytes1 (BitVec.signExtend 64 rl)) (bytes4 (BitVec.signExtend 64 rl)))) (s0)
def en16 (al cc sz : BitVec 64) (w sh : Bool) (d s : BitVec 64) (dp rl : BitVec 32) (im : BitVec 64) : ByteArray := catB (catB (catB (catB (s0) (rxB (16#64 == 14#64 && sz == 1#64) w 0#64 0#64)) (opB 16#64 al cc sz w sh d s dp rl im)) (cond sh (bytes1 (BitVec.signExtend 64 rl)) (bytes4 (BitVec.signExtend 64 rl)))) (s0)
def en17 (al cc sz : BitVec 64) (w sh : Bool) (d s : BitVec 64) (dp rl : BitVec 32) (im : BitVec 64) : ByteArray := catB (catB (catB (catB (s0) (rxB (17#64 == 14#64 && sz == 1#64) w 0#64 d)) (opB 17#64 al cc sz w sh d s dp rl im)) (s0)) (s0)
def en18 (al cc sz : BitVec 64) (w sh : Bool) (d s : BitVec 64) (dp rl : BitVec 32) (im : BitVec 64) : ByteArray := catB (catB (catB (catB (s0) (rxB (18#64 == 14#64 && sz == 1#64) w 0#64 d)) (opB 18#64 al cc sz w sh d s dp rl im)) (s0)) (s0)
def en19 (al cc sz : BitVec 64) (w sh : Bool) (d s : BitVec 64) (dp rl : BitVec 32) (im : BitVec 64) : ByteArray := catB (catB (catB (catB (s0) (rxB (19#64 == 14#64 && sz == 1#64) w 0#64 0#64)) (opB 19#64 al cc sz w sh d s dp rl im)) (s0)) (s0)
def en20 (al cc sz : BitVec 64) (w sh : Bool) (d s : BitVec 64) (dp rl : BitVec 32) (im : BitVec 64) : ByteArray := catB (catB (catB (catB (s0) (rxB (20#64 == 14#64 && sz == 1#64) w 0#64 0#64)) (opB 20#64 al cc sz w sh d s dp rl im)) (cond sh (bytes1 (BitVec.signExtend 64 rl)) (bytes4 (BitVec.signExtend 64 rl)))) (s0)
def en21 (al cc sz : BitVec 64) (w sh : Bool) (d s : BitVec 64) (dp rl : BitVec 32) (im : BitVec 64) : ByteArray := catB (catB (catB (catB (s0) (rxB (21#64 == 14#64 && sz == 1#64) w 0#64 0#64)) (opB 21#64 al cc sz w sh d s dp rl im)) (s0)) (s0)
/-- An instruction's bytes, as the program's Encode puts them together. -/
def encB (k al cc sz : BitVec 64) (w sh : Bool) (d s : BitVec 64) (dp rl : BitVec 32) (im : BitVec 64) : ByteArray := if k == 1#64 then en1 al cc sz w sh d s dp rl im else if k == 2#64 then en2 al cc sz w sh d s dp rl im else if k == 3#64 then en3 al cc sz w sh d s dp rl im else if k == 4#64 then en4 al cc sz w sh d s dp rl im else if k == 5#64 then en5 al cc sz w sh d s dp rl im else if k == 6#64 then en6 al cc sz w sh d s dp rl im else if k == 7#64 then en7 al cc sz w sh d s dp rl im else if k == 8#64 then en8 al cc sz w sh d s dp rl im else if k == 9#64 then en9 al cc sz w sh d s dp rl im else if k == 10#64 then en10 al cc sz w sh d s dp rl im else if k == 11#64 then en11 al cc sz w sh d s dp rl im else if k == 12#64 then en12 al cc sz w sh d s dp rl im else if k == 13#64 then en13 al cc sz w sh d s dp rl im else if k == 14#64 then en14 al cc sz w sh d s dp rl im else if k == 15#64 then en15 al cc sz w sh d s dp rl im else if k == 16#64 then en16 al cc sz w sh d s dp rl im else if k == 17#64 then en17 al cc sz w sh d s dp rl im else if k == 18#64 then en18 al cc sz w sh d s dp rl im else if k == 19#64 then en19 al cc sz w sh d s dp rl im else if k == 20#64 then en20 al cc sz w sh d s dp rl im else if k == 21#64 then en21 al cc sz w sh d s dp rl im else s0
theorem cat_sz2 (a b : ByteArray) : (catB a b).size = a.size + b.size := by
  rw [show (catB a b).size = (catB a b).data.toList.length from rfl, show a.size = a.data.toList.length from rfl, show b.size = b.data.toList.length from rfl]
  simp [catB]
theorem cat20 {a b : ByteArray} {z : Nat} (ha : a.size ≤ z) (hb : b.size ≤ 20) : (catB a b).size ≤ z + 20 := by rw [cat_sz2]; omega
theorem cat10 {a b : ByteArray} (ha : a.size ≤ 10) (hb : b.size ≤ 10) : (catB a b).size ≤ 20 := by rw [cat_sz2]; omega
theorem cat5 {a b : ByteArray} (ha : a.size ≤ 5) (hb : b.size ≤ 5) : (catB a b).size ≤ 10 := by rw [cat_sz2]; omega
theorem lt_sz {a b : Nat} (ha : a ≤ 100) (hb : b ≤ 100) : a + b < 9223372036854775808 := by omega
theorem mr_le (a b c : BitVec 64) {n : Nat} (hn : 5 ≤ n) : (mrB a b c).size ≤ n := Nat.le_trans (by show 1 ≤ 5; decide) hn
theorem b1_le (v : BitVec 64) {n : Nat} (hn : 5 ≤ n) : (bytes1 v).size ≤ n := Nat.le_trans (by show 1 ≤ 5; decide) hn
theorem b4_le (v : BitVec 64) {n : Nat} (hn : 5 ≤ n) : (bytes4 v).size ≤ n := Nat.le_trans (by show 4 ≤ 5; decide) hn
theorem b8_le (v : BitVec 64) {n : Nat} (hn : 10 ≤ n) : (bytes8 v).size ≤ n := Nat.le_trans (by show 8 ≤ 10; decide) hn
theorem rx_le (a w : Bool) (b c : BitVec 64) {n : Nat} (hn : 5 ≤ n) : (rxB a w b c).size ≤ n := by
  refine Nat.le_trans (?_ : _ ≤ 5) hn
  unfold rxB
  split
  · split
    · show 1 ≤ 5; decide
    · show 0 ≤ 5; decide
  · show 1 ≤ 5; decide
theorem ld_le (x : BitVec 64) : (ldV x).size ≤ 5 := by unfold ldV; (repeat' split) <;> decide
theorem stq_le (x : BitVec 64) : (stqV x).size ≤ 5 := by unfold stqV; (repeat' split) <;> decide
theorem op1_le (al cc sz : BitVec 64) (w sh : Bool) (d s : BitVec 64) (dp rl : BitVec 32) (im : BitVec 64) : (op1 al cc sz w sh d s dp rl im).size ≤ 5 := by unfold op1; first | decide | (show 1 ≤ 5; decide)
theorem op2_le (al cc sz : BitVec 64) (w sh : Bool) (d s : BitVec 64) (dp rl : BitVec 32) (im : BitVec 64) : (op2 al cc sz w sh d s dp rl im).size ≤ 5 := by unfold op2; first | decide | (show 1 ≤ 5; decide)
theorem op3_le (al cc sz : BitVec 64) (w sh : Bool) (d s : BitVec 64) (dp rl : BitVec 32) (im : BitVec 64) : (op3 al cc sz w sh d s dp rl im).size ≤ 5 := by unfold op3; first | decide | (show 1 ≤ 5; decide)
theorem op4_le (al cc sz : BitVec 64) (w sh : Bool) (d s : BitVec 64) (dp rl : BitVec 32) (im : BitVec 64) : (op4 al cc sz w sh d s dp rl im).size ≤ 5 := by unfold op4; first | decide | (show 1 ≤ 5; decide)
theorem op5_le (al cc sz : BitVec 64) (w sh : Bool) (d s : BitVec 64) (dp rl : BitVec 32) (im : BitVec 64) : (op5 al cc sz w sh d s dp rl im).size ≤ 5 := by unfold op5; first | decide | (show 1 ≤ 5; decide)
theorem op6_le (al cc sz : BitVec 64) (w sh : Bool) (d s : BitVec 64) (dp rl : BitVec 32) (im : BitVec 64) : (op6 al cc sz w sh d s dp rl im).size ≤ 5 := by unfold op6; first | decide | (show 1 ≤ 5; decide)
theorem op7_le (al cc sz : BitVec 64) (w sh : Bool) (d s : BitVec 64) (dp rl : BitVec 32) (im : BitVec 64) : (op7 al cc sz w sh d s dp rl im).size ≤ 5 := by unfold op7; first | decide | (show 1 ≤ 5; decide)
theorem op8_le (al cc sz : BitVec 64) (w sh : Bool) (d s : BitVec 64) (dp rl : BitVec 32) (im : BitVec 64) : (op8 al cc sz w sh d s dp rl im).size ≤ 5 := by unfold op8; first | decide | (show 1 ≤ 5; decide)
theorem op9_le (al cc sz : BitVec 64) (w sh : Bool) (d s : BitVec 64) (dp rl : BitVec 32) (im : BitVec 64) : (op9 al cc sz w sh d s dp rl im).size ≤ 5 := by unfold op9; first | decide | (show 1 ≤ 5; decide)
theorem op10_le (al cc sz : BitVec 64) (w sh : Bool) (d s : BitVec 64) (dp rl : BitVec 32) (im : BitVec 64) : (op10 al cc sz w sh d s dp rl im).size ≤ 5 := by unfold op10; first | decide | (show 1 ≤ 5; decide)
theorem op11_le (al cc sz : BitVec 64) (w sh : Bool) (d s : BitVec 64) (dp rl : BitVec 32) (im : BitVec 64) : (op11 al cc sz w sh d s dp rl im).size ≤ 5 := by unfold op11; first | decide | (show 1 ≤ 5; decide)
theorem op12_le (al cc sz : BitVec 64) (w sh : Bool) (d s : BitVec 64) (dp rl : BitVec 32) (im : BitVec 64) : (op12 al cc sz w sh d s dp rl im).size ≤ 5 := by unfold op12; first | decide | (show 1 ≤ 5; decide)
theorem op13_le (al cc sz : BitVec 64) (w sh : Bool) (d s : BitVec 64) (dp rl : BitVec 32) (im : BitVec 64) : (op13 al cc sz w sh d s dp rl im).size ≤ 5 := ld_le sz
theorem op14_le (al cc sz : BitVec 64) (w sh : Bool) (d s : BitVec 64) (dp rl : BitVec 32) (im : BitVec 64) : (op14 al cc sz w sh d s dp rl im).size ≤ 5 := stq_le sz
theorem op15_le (al cc sz : BitVec 64) (w sh : Bool) (d s : BitVec 64) (dp rl : BitVec 32) (im : BitVec 64) : (op15 al cc sz w sh d s dp rl im).size ≤ 5 := by unfold op15; split <;> first | (show 1 ≤ 5; decide) | (show 2 ≤ 5; decide)
theorem op16_le (al cc sz : BitVec 64) (w sh : Bool) (d s : BitVec 64) (dp rl : BitVec 32) (im : BitVec 64) : (op16 al cc sz w sh d s dp rl im).size ≤ 5 := by unfold op16; split <;> first | (show 1 ≤ 5; decide) | (show 2 ≤ 5; decide)
theorem op17_le (al cc sz : BitVec 64) (w sh : Bool) (d s : BitVec 64) (dp rl : BitVec 32) (im : BitVec 64) : (op17 al cc sz w sh d s dp rl im).size ≤ 5 := by unfold op17; first | decide | (show 1 ≤ 5; decide)
theorem op18_le (al cc sz : BitVec 64) (w sh : Bool) (d s : BitVec 64) (dp rl : BitVec 32) (im : BitVec 64) : (op18 al cc sz w sh d s dp rl im).size ≤ 5 := by unfold op18; first | decide | (show 1 ≤ 5; decide)
theorem op19_le (al cc sz : BitVec 64) (w sh : Bool) (d s : BitVec 64) (dp rl : BitVec 32) (im : BitVec 64) : (op19 al cc sz w sh d s dp rl im).size ≤ 5 := by unfold op19; first | decide | (show 1 ≤ 5; decide)
theorem op20_le (al cc sz : BitVec 64) (w sh : Bool) (d s : BitVec 64) (dp rl : BitVec 32) (im : BitVec 64) : (op20 al cc sz w sh d s dp rl im).size ≤ 5 := by unfold op20; first | decide | (show 1 ≤ 5; decide)
theorem op21_le (al cc sz : BitVec 64) (w sh : Bool) (d s : BitVec 64) (dp rl : BitVec 32) (im : BitVec 64) : (op21 al cc sz w sh d s dp rl im).size ≤ 5 := by unfold op21; first | decide | (show 1 ≤ 5; decide)
theorem opK1 (al cc sz : BitVec 64) (w sh : Bool) (d s : BitVec 64) (dp rl : BitVec 32) (im : BitVec 64) {n : Nat} (hn : 5 ≤ n) : (opB 1#64 al cc sz w sh d s dp rl im).size ≤ n := Nat.le_trans (op1_le al cc sz w sh d s dp rl im) hn
theorem opK2 (al cc sz : BitVec 64) (w sh : Bool) (d s : BitVec 64) (dp rl : BitVec 32) (im : BitVec 64) {n : Nat} (hn : 5 ≤ n) : (opB 2#64 al cc sz w sh d s dp rl im).size ≤ n := Nat.le_trans (op2_le al cc sz w sh d s dp rl im) hn
theorem opK3 (al cc sz : BitVec 64) (w sh : Bool) (d s : BitVec 64) (dp rl : BitVec 32) (im : BitVec 64) {n : Nat} (hn : 5 ≤ n) : (opB 3#64 al cc sz w sh d s dp rl im).size ≤ n := Nat.le_trans (op3_le al cc sz w sh d s dp rl im) hn
theorem opK4 (al cc sz : BitVec 64) (w sh : Bool) (d s : BitVec 64) (dp rl : BitVec 32) (im : BitVec 64) {n : Nat} (hn : 5 ≤ n) : (opB 4#64 al cc sz w sh d s dp rl im).size ≤ n := Nat.le_trans (op4_le al cc sz w sh d s dp rl im) hn
theorem opK5 (al cc sz : BitVec 64) (w sh : Bool) (d s : BitVec 64) (dp rl : BitVec 32) (im : BitVec 64) {n : Nat} (hn : 5 ≤ n) : (opB 5#64 al cc sz w sh d s dp rl im).size ≤ n := Nat.le_trans (op5_le al cc sz w sh d s dp rl im) hn
theorem opK6 (al cc sz : BitVec 64) (w sh : Bool) (d s : BitVec 64) (dp rl : BitVec 32) (im : BitVec 64) {n : Nat} (hn : 5 ≤ n) : (opB 6#64 al cc sz w sh d s dp rl im).size ≤ n := Nat.le_trans (op6_le al cc sz w sh d s dp rl im) hn
theorem opK7 (al cc sz : BitVec 64) (w sh : Bool) (d s : BitVec 64) (dp rl : BitVec 32) (im : BitVec 64) {n : Nat} (hn : 5 ≤ n) : (opB 7#64 al cc sz w sh d s dp rl im).size ≤ n := Nat.le_trans (op7_le al cc sz w sh d s dp rl im) hn
theorem opK8 (al cc sz : BitVec 64) (w sh : Bool) (d s : BitVec 64) (dp rl : BitVec 32) (im : BitVec 64) {n : Nat} (hn : 5 ≤ n) : (opB 8#64 al cc sz w sh d s dp rl im).size ≤ n := Nat.le_trans (op8_le al cc sz w sh d s dp rl im) hn
theorem opK9 (al cc sz : BitVec 64) (w sh : Bool) (d s : BitVec 64) (dp rl : BitVec 32) (im : BitVec 64) {n : Nat} (hn : 5 ≤ n) : (opB 9#64 al cc sz w sh d s dp rl im).size ≤ n := Nat.le_trans (op9_le al cc sz w sh d s dp rl im) hn
theorem opK10 (al cc sz : BitVec 64) (w sh : Bool) (d s : BitVec 64) (dp rl : BitVec 32) (im : BitVec 64) {n : Nat} (hn : 5 ≤ n) : (opB 10#64 al cc sz w sh d s dp rl im).size ≤ n := Nat.le_trans (op10_le al cc sz w sh d s dp rl im) hn
theorem opK11 (al cc sz : BitVec 64) (w sh : Bool) (d s : BitVec 64) (dp rl : BitVec 32) (im : BitVec 64) {n : Nat} (hn : 5 ≤ n) : (opB 11#64 al cc sz w sh d s dp rl im).size ≤ n := Nat.le_trans (op11_le al cc sz w sh d s dp rl im) hn
theorem opK12 (al cc sz : BitVec 64) (w sh : Bool) (d s : BitVec 64) (dp rl : BitVec 32) (im : BitVec 64) {n : Nat} (hn : 5 ≤ n) : (opB 12#64 al cc sz w sh d s dp rl im).size ≤ n := Nat.le_trans (op12_le al cc sz w sh d s dp rl im) hn
theorem opK13 (al cc sz : BitVec 64) (w sh : Bool) (d s : BitVec 64) (dp rl : BitVec 32) (im : BitVec 64) {n : Nat} (hn : 5 ≤ n) : (opB 13#64 al cc sz w sh d s dp rl im).size ≤ n := Nat.le_trans (op13_le al cc sz w sh d s dp rl im) hn
theorem opK14 (al cc sz : BitVec 64) (w sh : Bool) (d s : BitVec 64) (dp rl : BitVec 32) (im : BitVec 64) {n : Nat} (hn : 5 ≤ n) : (opB 14#64 al cc sz w sh d s dp rl im).size ≤ n := Nat.le_trans (op14_le al cc sz w sh d s dp rl im) hn
theorem opK15 (al cc sz : BitVec 64) (w sh : Bool) (d s : BitVec 64) (dp rl : BitVec 32) (im : BitVec 64) {n : Nat} (hn : 5 ≤ n) : (opB 15#64 al cc sz w sh d s dp rl im).size ≤ n := Nat.le_trans (op15_le al cc sz w sh d s dp rl im) hn
theorem opK16 (al cc sz : BitVec 64) (w sh : Bool) (d s : BitVec 64) (dp rl : BitVec 32) (im : BitVec 64) {n : Nat} (hn : 5 ≤ n) : (opB 16#64 al cc sz w sh d s dp rl im).size ≤ n := Nat.le_trans (op16_le al cc sz w sh d s dp rl im) hn
theorem opK17 (al cc sz : BitVec 64) (w sh : Bool) (d s : BitVec 64) (dp rl : BitVec 32) (im : BitVec 64) {n : Nat} (hn : 5 ≤ n) : (opB 17#64 al cc sz w sh d s dp rl im).size ≤ n := Nat.le_trans (op17_le al cc sz w sh d s dp rl im) hn
theorem opK18 (al cc sz : BitVec 64) (w sh : Bool) (d s : BitVec 64) (dp rl : BitVec 32) (im : BitVec 64) {n : Nat} (hn : 5 ≤ n) : (opB 18#64 al cc sz w sh d s dp rl im).size ≤ n := Nat.le_trans (op18_le al cc sz w sh d s dp rl im) hn
theorem opK19 (al cc sz : BitVec 64) (w sh : Bool) (d s : BitVec 64) (dp rl : BitVec 32) (im : BitVec 64) {n : Nat} (hn : 5 ≤ n) : (opB 19#64 al cc sz w sh d s dp rl im).size ≤ n := Nat.le_trans (op19_le al cc sz w sh d s dp rl im) hn
theorem opK20 (al cc sz : BitVec 64) (w sh : Bool) (d s : BitVec 64) (dp rl : BitVec 32) (im : BitVec 64) {n : Nat} (hn : 5 ≤ n) : (opB 20#64 al cc sz w sh d s dp rl im).size ≤ n := Nat.le_trans (op20_le al cc sz w sh d s dp rl im) hn
theorem opK21 (al cc sz : BitVec 64) (w sh : Bool) (d s : BitVec 64) (dp rl : BitVec 32) (im : BitVec 64) {n : Nat} (hn : 5 ≤ n) : (opB 21#64 al cc sz w sh d s dp rl im).size ≤ n := Nat.le_trans (op21_le al cc sz w sh d s dp rl im) hn
theorem enc_ok {q : Bool} {x : ByteArray} {r : AV} (hq : (!q) = false) (h : r = .tup [(false, [.str x]), (false, [.b64 true 0#64])]) : r = .tup [(false, [.str (if q then x else s0)]), (false, [.b64 true (if q then 0#64 else 2#64)])] := by
  have : q = true := by simpa using hq
  subst this
  exact h
theorem enc_no {q : Bool} {x : ByteArray} (hq : (!q) = true) : AV.tup [(false, [.str s0]), (false, [.b64 true 2#64])] = .tup [(false, [.str (if q then x else s0)]), (false, [.b64 true (if q then 0#64 else 2#64)])] := by
  have : q = false := by simpa using hq
  subst this
  rfl
noncomputable abbrev FSn : List (Nat × Func) := [(42, Tryd.f42)]
theorem fs_n : FsOK Tryd.prog FSn := FsOK.cons Tryd.func42 (by kernel_rfl) (by kernel_rfl) FsOK.nil
end Go.Proofs.YtppankimieopiaaDoor
