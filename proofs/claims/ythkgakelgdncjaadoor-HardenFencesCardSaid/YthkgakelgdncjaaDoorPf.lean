/-
  What each operation asks for is what the model's operation does: the last kinds, and all of them together. Conditions: as typed.
-/
import Derived.Test.YthkgakelgdncjaaDoorPe
import Derived.Laws.Tables
import Derived.Laws.BytesArg
import Derived.Laws.Concat
import Derived.Laws.MakeOwn
import Derived.Laws.Strings
import Derived.Laws.Cover3
import Derived.Maps.AppendAt
namespace Go.Ep
open Go.RowKit
set_option linter.unusedVariables false
set_option linter.unusedSimpArgs false

section
variable {P : Program} {ρ : Nat → Loc} {t : List AV} {h : Nat → Option Blk} {a : Act} {w : World}

/-- How a value of a type reads: by cells, or as the one that it is. -/
def RelT (P : Program) (ρ : Nat → Loc) (T : TypeId) (xs : List L) (u : Value) : Prop :=
  (isAggT P T = some true ∧ RelA ρ (.agg xs) u) ∨ (isAggT P T = some false ∧ ∃ x, xs = [x] ∧ RelL ρ x u)
theorem part_relT {cs : Array Value} {ls : List L} (hr : RelLs ρ ls cs.toList) {T : TypeId} {inf : TypeInfo} (hi : P.info? T = some inf) {b : Bool} (hA : isAggT P T = some b) (off : Nat) {r : List L}
    (hs : b = false → inf.size = 1) (hn : b = false → ∃ x, r = [x] ∧ isSeg x = false) (ht : takeL (dropL ls off) inf.size = some r) : ∃ u, (part T cs off).run P w = .ok u w ∧ RelT P ρ T r u := by
  cases b with
  | true =>
    obtain ⟨u, h1, h2⟩ := part_run (P := P) (w := w) hr hi hA off ht
    exact ⟨u, h1, .inl ⟨hA, h2⟩⟩
  | false =>
    have hs1 := hs rfl
    obtain ⟨x, rfl, hx⟩ := hn rfl
    rw [hs1] at ht
    have ⟨h1, h2⟩ := relLs_take 1 ht (relLs_drop off hr)
    obtain ⟨v, ws, h3, h4, h5⟩ := (relLs_cons hx).1 h1
    have hv : cs[off]? = some v := by
      have : ((cs.toList.drop off).take 1)[0]? = some v := by rw [h3]; rfl
      rw [List.getElem?_take, if_pos (by omega), List.getElem?_drop] at this
      simpa using this
    exact ⟨v, by simp [part, isAgg_run hA, hv], .inr ⟨hA, x, rfl, h4⟩⟩
theorem isAggT_leaf {T : TypeId} {k : IntKind} (h : P.underlying T = some (.int k)) : isAggT P T = some false := by simp [isAggT, h]
theorem isAggT_bool {T : TypeId} (h : P.underlying T = some .bool) : isAggT P T = some false := by simp [isAggT, h]
theorem isAggT_struct {T : TypeId} {fs : Array Field} (h : P.underlying T = some (.struct fs)) : isAggT P T = some true := by simp [isAggT, h]
theorem isAggT_array {T e : TypeId} {n : Nat} (h : P.underlying T = some (.array n e)) : isAggT P T = some true := by simp [isAggT, h]
theorem isNum_seg {x : L} (hx : isNum x = true) : isSeg x = false := by cases x <;> first | rfl | simp [isNum] at hx
theorem isBoolL_seg {x : L} (hx : isBoolL x = true) : isSeg x = false := by cases x <;> first | rfl | simp [isBoolL] at hx
theorem isNum_int {x : L} {u : Value} (hx : isNum x = true) (hr : RelL ρ x u) : ∃ k m, u = .int k m := by
  cases x <;> simp [isNum] at hx <;> exact ⟨_, _, hr (by simp)⟩
theorem isBool_bool {x : L} {u : Value} (hx : isBoolL x = true) (hr : RelL ρ x u) : ∃ b, u = .bool b := by
  cases x <;> simp [isBoolL] at hx <;> exact ⟨_, hr (by simp)⟩
theorem relT_agg {T : TypeId} {fs : Array Field} (hu : P.underlying T = some (.struct fs)) {xs : List L} {u : Value} (h : RelT P ρ T xs u) : ∃ cs : Array Value, u = .agg cs ∧ RelLs ρ xs cs.toList := by
  rcases h with ⟨_, h⟩ | ⟨h, _⟩
  · exact h
  · rw [isAggT_struct hu] at h; cases h
theorem one_size {inf : TypeInfo} {ls r : List L} {vs : List Value} (hr : RelLs ρ ls vs) {n off : Nat} (ht : takeL (dropL ls off) n = some r) (h : ∃ x, r = [x] ∧ isSeg x = false) : n = 1 := by
  obtain ⟨x, rfl, hx⟩ := h
  have ⟨h1, h2⟩ := relLs_take n ht (relLs_drop off hr)
  have h3 := relLs_len h1
  rw [List.length_take, Nat.min_eq_left h2] at h3
  have : wid x = 1 := by cases x <;> first | rfl | simp [isSeg] at hx
  simp [wids, this] at h3
  exact h3.symm
theorem eqT_size {d : Nat} {T : TypeId} {xs ys : List L} {b : Bool} (e : eqT P d T xs ys = some b) : ∃ b', isAggT P T = some b' ∧ (b' = false → (∃ x, xs = [x] ∧ isSeg x = false) ∧ ∃ y, ys = [y] ∧ isSeg y = false) := by
  cases d with
  | zero => simp [eqT] at e
  | succ d =>
    simp only [eqT] at e
    split at e
    · rename_i k hu
      refine ⟨false, isAggT_leaf hu, fun _ => ?_⟩
      split at e
      · rename_i x y
        split at e
        · rename_i hn
          refine ⟨⟨x, rfl, isNum_seg hn⟩, y, rfl, ?_⟩
          cases x <;> cases y <;> first | rfl | simp [eqL] at e
        · cases e
      · cases e
    · rename_i hu
      refine ⟨false, isAggT_bool hu, fun _ => ?_⟩
      split at e
      · rename_i x y
        split at e
        · rename_i hn
          refine ⟨⟨x, rfl, isBoolL_seg hn⟩, y, rfl, ?_⟩
          cases x <;> cases y <;> first | rfl | simp [eqL] at e
        · cases e
      · cases e
    · rename_i fs hu
      exact ⟨true, isAggT_struct hu, fun h => by cases h⟩
    · rename_i n e' hu
      exact ⟨true, isAggT_array hu, fun h => by cases h⟩
    · cases e
theorem eqF_run (d : Nat) (H : ∀ (T : TypeId) (xs ys : List L) (b : Bool), eqT P d T xs ys = some b → blank P d T = false → ∀ (D : Nat), d ≤ D → ∀ u v, RelT P ρ T xs u → RelT P ρ T ys v →
    (Op.equalIn D T u v).run P w = .ok b w) : ∀ (fs : List Field) (xs ys : List L) (b : Bool), eqF P (eqT P d) fs xs ys = some b → blankF (blank P d) fs = false → ∀ (D : Nat), d ≤ D → ∀ (cx cy : Array Value),
    RelLs ρ xs cx.toList → RelLs ρ ys cy.toList → (Op.eqFields D cx cy fs).run P w = .ok b w
  | [], xs, ys, b, e, _, D, _, cx, cy, _, _ => by
    simp only [eqF, Option.some.injEq] at e
    subst e
    simp [Op.eqFields]
  | f :: fs, xs, ys, b, e, hb, D, hD, cx, cy, rx, ry => by
    simp only [blankF, Bool.or_eq_false_iff] at hb
    obtain ⟨⟨hn, hbf⟩, hbr⟩ := hb
    have hn' : f.name ≠ "_" := by simpa using hn
    simp only [eqF] at e
    split at e
    · cases e
    · rename_i inf hi
      split at e
      · rename_i xa ya hxa hya
        have key : ∀ p, eqT P d f.type xa ya = some p → ∃ u v, (part f.type cx f.offset).run P w = .ok u w ∧ (part f.type cy f.offset).run P w = .ok v w ∧ (Op.equalIn D f.type u v).run P w = .ok p w := by
          intro p hp
          obtain ⟨b', hA, hsz⟩ := eqT_size hp
          obtain ⟨u, hu, ru⟩ := part_relT (P := P) (w := w) rx hi hA _ (fun h => one_size (inf := inf) rx hxa (hsz h).1) (fun h => (hsz h).1) hxa
          obtain ⟨v, hv, rv⟩ := part_relT (P := P) (w := w) ry hi hA _ (fun h => one_size (inf := inf) ry hya (hsz h).2) (fun h => (hsz h).2) hya
          exact ⟨u, v, hu, hv, H f.type xa ya p hp hbf D hD u v ru rv⟩
        split at e
        · rename_i p hp
          obtain ⟨u, v, hu, hv, hq⟩ := key p hp
          obtain rfl := Option.some.inj e
          cases p <;> simp [Op.eqFields, hn', hu, hv, hq]
        · rename_i p hp _
          obtain ⟨u, v, hu, hv, hq⟩ := key p hp
          split at e
          · rename_i q hqr
            have e' := Option.some.inj e
            subst e'
            have ih := eqF_run d H _ xs ys q hqr hbr D hD cx cy rx ry
            cases p <;> simp [Op.eqFields, hn', hu, hv, hq, ih]
          · cases e
        · cases e
      · cases e

theorem part_at {cs : Array Value} {ls : List L} {off : Nat} (hr : RelLs ρ ls (cs.toList.drop off)) {T : TypeId} {inf : TypeInfo} (hi : P.info? T = some inf) {b : Bool} (hA : isAggT P T = some b) {r : List L}
    (hn : b = false → ∃ x, r = [x] ∧ isSeg x = false) (ht : takeL ls inf.size = some r) : ∃ u, (part T cs off).run P w = .ok u w ∧ RelT P ρ T r u := by
  have ⟨h1, h2⟩ := relLs_take _ ht hr
  cases b with
  | true =>
    refine ⟨.agg (cs.extract off (off + inf.size)), by simp [part, isAgg_run hA, sizeOf_run hi], .inl ⟨hA, _, rfl, ?_⟩⟩
    rw [Array.toList_extract, List.extract_eq_take_drop, show off + inf.size - off = inf.size by omega]
    exact h1
  | false =>
    obtain ⟨x, rfl, hx⟩ := hn rfl
    obtain ⟨v, ws, h3, h4, h5⟩ := (relLs_cons hx).1 h1
    cases h5
    have hv : cs[off]? = some v := by
      have h6 : ((cs.toList.drop off).take inf.size)[0]? = some v := by rw [h3]; rfl
      have h7 : 0 < inf.size := Nat.pos_of_ne_zero fun e => by rw [e] at h3; simp at h3
      rw [List.getElem?_take, if_pos h7, List.getElem?_drop] at h6
      simpa using h6
    exact ⟨v, by simp [part, isAgg_run hA, hv], .inr ⟨hA, x, rfl, h4⟩⟩
theorem eqA_run (d : Nat) {e : TypeId} {inf : TypeInfo} (hi : P.info? e = some inf) (hbl : blank P d e = false) (H : ∀ (T : TypeId) (xs ys : List L) (b : Bool), eqT P d T xs ys = some b → blank P d T = false → ∀ (D : Nat), d ≤ D → ∀ u v, RelT P ρ T xs u → RelT P ρ T ys v →
    (Op.equalIn D T u v).run P w = .ok b w) (D : Nat) (hD : d ≤ D) {cx cy : Array Value} :
    ∀ (n j : Nat) (XS YS : List L) (b : Bool), RelLs ρ XS (cx.toList.drop (j * inf.size)) → RelLs ρ YS (cy.toList.drop (j * inf.size)) → eqA (eqT P d e) inf.size n XS YS = some b → (Op.eqItems D e inf.size cx cy (List.range' j n)).run P w = .ok b w
  | 0, j, XS, YS, b, _, _, h => by
    simp only [eqA, Option.some.injEq] at h
    subst h
    simp [Op.eqItems]
  | n + 1, j, XS, YS, b, rx, ry, h => by
    simp only [eqA] at h
    split at h
    · rename_i xa ya hxa hya
      have key : ∀ p, eqT P d e xa ya = some p → ∃ u v, (part e cx (j * inf.size)).run P w = .ok u w ∧ (part e cy (j * inf.size)).run P w = .ok v w ∧ (Op.equalIn D e u v).run P w = .ok p w := by
        intro p hp
        obtain ⟨b', hA, hsz⟩ := eqT_size hp
        obtain ⟨u, hu, ru⟩ := part_at (P := P) (w := w) rx hi hA (fun h => (hsz h).1) hxa
        obtain ⟨v, hv, rv⟩ := part_at (P := P) (w := w) ry hi hA (fun h => (hsz h).2) hya
        exact ⟨u, v, hu, hv, H e xa ya p hp hbl D hD u v ru rv⟩
      have next : ∀ {X : List L} {c : Array Value}, RelLs ρ X (c.toList.drop (j * inf.size)) → RelLs ρ (dropL X inf.size) (c.toList.drop ((j + 1) * inf.size)) := fun h => by
        have := relLs_drop inf.size h
        rwa [List.drop_drop, show j * inf.size + inf.size = (j + 1) * inf.size by rw [Nat.add_mul, Nat.one_mul]] at this
      split at h
      · rename_i p hp
        obtain ⟨u, v, hu, hv, hq⟩ := key p hp
        obtain rfl := Option.some.inj h
        cases p <;> simp [Op.eqItems, hu, hv, hq]
      · rename_i p m hp
        obtain ⟨u, v, hu, hv, hq⟩ := key p hp
        split at h
        · rename_i q hqr
          have e' := Option.some.inj h
          subst e'
          have ih := eqA_run d hi hbl H D hD (m + 1) (j + 1) _ _ q (next rx) (next ry) hqr
          rw [List.range'_succ]
          simp only [Op.eqItems, Sem.run_bind, hu, hv, hq, Result.andThen_ok]
          cases p
          · simp
          · simpa using ih
        · cases h
      · cases h
    · cases h
theorem eqT_run : ∀ (d : Nat) (T : TypeId) (xs ys : List L) (b : Bool), eqT P d T xs ys = some b → blank P d T = false → ∀ (D : Nat), d ≤ D → ∀ u v, RelT P ρ T xs u → RelT P ρ T ys v →
    (Op.equalIn D T u v).run P w = .ok b w
  | 0, T, xs, ys, b, e, _, _, _, _, _, _, _ => by simp [eqT] at e
  | d + 1, T, xs, ys, b, e, hb, D, hD, u, v, hx, hy => by
    obtain ⟨D, rfl⟩ : ∃ D', D = D' + 1 := ⟨D - 1, by omega⟩
    simp only [eqT] at e
    split at e
    · rename_i k hu
      split at e
      · rename_i x y
        split at e
        · rename_i hn
          rcases hx with ⟨hx, _⟩ | ⟨_, x', hx, rx⟩
          · rw [isAggT_leaf hu] at hx; cases hx
          rcases hy with ⟨hy, _⟩ | ⟨_, y', hy, ry⟩
          · rw [isAggT_leaf hu] at hy; cases hy
          obtain rfl : x = x' := by simpa using hx
          obtain rfl : y = y' := by simpa using hy
          exact eqL_run e rx ry D T (.inl ⟨⟨k, hu⟩, isNum_int hn rx⟩)
        · cases e
      · cases e
    · rename_i hu
      split at e
      · rename_i x y
        split at e
        · rename_i hn
          rcases hx with ⟨hx, _⟩ | ⟨_, x', hx, rx⟩
          · rw [isAggT_bool hu] at hx; cases hx
          rcases hy with ⟨hy, _⟩ | ⟨_, y', hy, ry⟩
          · rw [isAggT_bool hu] at hy; cases hy
          obtain rfl : x = x' := by simpa using hx
          obtain rfl : y = y' := by simpa using hy
          exact eqL_run e rx ry D T (.inr ⟨hu, isBool_bool hn rx⟩)
        · cases e
      · cases e
    · rename_i fs hu
      obtain ⟨cx, rfl, rx⟩ := relT_agg hu hx
      obtain ⟨cy, rfl, ry⟩ := relT_agg hu hy
      have hfs : P.fieldsOf T = fs := by simp [Program.fieldsOf, hu]
      simp only [blank, hu, Bool.or_eq_false_iff] at hb
      rw [run_equalIn_struct w D T cx cy (by rw [hfs]; exact hu) hb.1, hfs]
      exact eqF_run d (eqT_run d) fs.toList xs ys b e hb.2 D (by omega) cx cy rx ry
    · rename_i n e' hu
      split at e
      · rename_i inf hi
        have hagg : ∀ {xs : List L} {u : Value}, RelT P ρ T xs u → ∃ cs : Array Value, u = .agg cs ∧ RelLs ρ xs cs.toList := by
          intro xs u h
          rcases h with ⟨_, h⟩ | ⟨h, _⟩
          · exact h
          · rw [isAggT_array hu] at h; cases h
        obtain ⟨cx, rfl, rx⟩ := hagg hx
        obtain ⟨cy, rfl, ry⟩ := hagg hy
        simp only [blank, hu] at hb
        have hc : P.cellsOf e' = inf.size := by simp [Program.cellsOf, hi]
        rw [run_equalIn_array w D cx cy hu hi, hc, List.range_eq_range']
        exact eqA_run d hi hb (eqT_run d) D (by omega) n 0 xs ys b (by simpa using rx) (by simpa using ry) e
      · cases e
    · cases e
theorem guard_int (op : BinOp) (T : TypeId) (x y : Operand) (k : IntKind) (m : Int) (v : Value) : (eqGuard op T x y (.int k m) v).run P w = .ok () w := by
  cases op <;> simp [eqGuard]
theorem guard_map (op : BinOp) (T : TypeId) (x y : Operand) (b : Option Nat) (v : Value) : (eqGuard op T x y (.map b) v).run P w = .ok () w := by
  cases op <;> simp [eqGuard]
theorem guard_bool (op : BinOp) (T : TypeId) (x y : Operand) (b : Bool) (v : Value) : (eqGuard op T x y (.bool b) v).run P w = .ok () w := by
  cases op <;> simp [eqGuard]
theorem catB_eq (a b : ByteArray) : a ++ b = catB a b := by
  apply ByteArray.ext
  rw [ByteArray.data_append]
  apply Array.ext'
  simp [catB]
theorem guard_str (op : BinOp) (T : TypeId) (x y : Operand) (b : ByteArray) (v : Value) : (eqGuard op T x y (.string b) v).run P w = .ok () w := by
  cases op <;> simp [eqGuard]
theorem str_eq (a b : ByteArray) : (a.toList == b.toList) = decide (a = b) := by
  rw [ByteArray.toList_eq, ByteArray.toList_eq]
  by_cases h : a = b
  · subst h; simp
  · rw [decide_eq_false h, beq_eq_false_iff_ne]
    intro e
    apply h
    have : a.data = b.data := by
      cases ha : a.data; cases hb : b.data; simp_all
    cases a; cases b; simp_all
theorem ok_binOp (C : Ctx ρ t h a w) {dst : Option Tmp} {op : BinOp} {T : TypeId} {x y : Operand} {yT : TypeId} {ty : TypeId} {pos : String} {after : Array Edge} {gu : Option (Nat × Bool)} {c : Cond} {r : Req}
    (e : req P (.binOp op T x y yT) t = some (c, r)) (hc : c.holds) : ReqOK P ρ h a w ⟨dst, .binOp op T x y yT, ty, pos, after, gu⟩ r := by
  simp only [req] at e
  split at e
  · rename_i lx hx
    have rx := ev_rel C x
    rw [hx] at rx
    split at e
    · rename_i ly hy
      have ry := ev_rel C y
      rw [hy] at ry
      split at e
      · rename_i p v hv
        simp only [Option.some.injEq, Prod.mk.injEq] at e
        obtain ⟨rfl, rfl⟩ := e
        obtain ⟨h1, h2, h3, k, m, hk⟩ := binL_run (P := P) (w := w) hv hc T rx ry
        rw [hk] at h1
        refine ⟨_, ?_, fun _ => rfl, by simp [AV.names, h3]⟩
        simp only [execOp, hk, Sem.run_bind, guard_int, Result.andThen_ok, h1, Sem.run_pure]
      · split at e
        · rename_i b1 b2 hu _
          simp only [Option.some.injEq, Prod.mk.injEq] at e
          obtain ⟨-, rfl⟩ := e
          have e1 := rx (by simp)
          have e2 := ry (by simp)
          refine ⟨_, ?_, fun _ => rfl, by simp [AV.names, L.names]⟩
          simp only [execOp, e1, e2, gL, Sem.run_bind, guard_bool, Result.andThen_ok]
          simp [binOp, Op.equal, Op.maxDepth, run_equalIn_bool' w _ T b1 b2 hu]
        · rename_i b1 b2 hu _
          simp only [Option.some.injEq, Prod.mk.injEq] at e
          obtain ⟨-, rfl⟩ := e
          have e1 := rx (by simp)
          have e2 := ry (by simp)
          refine ⟨_, ?_, fun _ => rfl, by simp [AV.names, L.names]⟩
          simp only [execOp, e1, e2, gL, Sem.run_bind, guard_bool, Result.andThen_ok]
          simp [binOp, Op.equal, Op.maxDepth, run_equalIn_bool' w _ T b1 b2 hu]
        · rename_i s1 s2 _
          simp only [Option.some.injEq, Prod.mk.injEq] at e
          obtain ⟨rfl, rfl⟩ := e
          have e1 := rx (by simp)
          have e2 := ry (by simp)
          have hc : s1.size + s2.size < 9223372036854775808 := hc
          refine ⟨.string (catB s1 s2), ?_, fun _ => rfl, by simp [AV.names, L.names]⟩
          simp only [execOp, e1, e2, gL, Sem.run_bind, guard_str, Result.andThen_ok, binOp_string_add]
          have hr := run_string_add_sum (P := P) (w := w) s1 s2 (by omega)
          rw [hr, catB_eq]
          simp
        · rename_i s1 s2 _
          simp only [Option.some.injEq, Prod.mk.injEq] at e
          obtain ⟨-, rfl⟩ := e
          have e1 := rx (by simp)
          have e2 := ry (by simp)
          refine ⟨_, ?_, fun _ => rfl, by simp [AV.names, L.names]⟩
          simp only [execOp, e1, e2, gL, Sem.run_bind, guard_str, Result.andThen_ok, binOp_string_eql, str_eq]
          simp
        · rename_i s1 s2 _
          simp only [Option.some.injEq, Prod.mk.injEq] at e
          obtain ⟨-, rfl⟩ := e
          have e1 := rx (by simp)
          have e2 := ry (by simp)
          refine ⟨_, ?_, fun _ => rfl, by simp [AV.names, L.names]⟩
          simp only [execOp, e1, e2, gL, Sem.run_bind, guard_str, Result.andThen_ok, binOp_string_neq, str_eq]
          simp
        · rename_i hu _
          simp only [Option.some.injEq, Prod.mk.injEq] at e
          obtain ⟨-, rfl⟩ := e
          have e1 := rx (by simp)
          have e2 := ry (by simp)
          refine ⟨_, ?_, fun _ => rfl, by simp [AV.names, L.names]⟩
          simp only [execOp, e1, e2, gL, Sem.run_bind, guard_map, Result.andThen_ok]
          simp [binOp, Op.equal, Op.maxDepth, run_equalIn_map_nil w _ T _ _ _ hu]
        · rename_i hu _
          simp only [Option.some.injEq, Prod.mk.injEq] at e
          obtain ⟨-, rfl⟩ := e
          have e1 := rx (by simp)
          have e2 := ry (by simp)
          refine ⟨_, ?_, fun _ => rfl, by simp [AV.names, L.names]⟩
          simp only [execOp, e1, e2, gL, Sem.run_bind, guard_map, Result.andThen_ok]
          simp [binOp, Op.equal, Op.maxDepth, run_equalIn_map_nil w _ T _ _ _ hu]
        · rename_i hu _
          simp only [Option.some.injEq, Prod.mk.injEq] at e
          obtain ⟨-, rfl⟩ := e
          have e1 := rx (by simp)
          have e2 := ry (by simp)
          refine ⟨_, ?_, fun _ => rfl, by simp [AV.names, L.names]⟩
          simp only [execOp, e1, e2, gL, Sem.run_bind, guard_map, Result.andThen_ok]
          simp [binOp, Op.equal, Op.maxDepth, run_equalIn_map_nil w _ T _ _ _ hu]
        · rename_i hu _
          simp only [Option.some.injEq, Prod.mk.injEq] at e
          obtain ⟨-, rfl⟩ := e
          have e1 := rx (by simp)
          have e2 := ry (by simp)
          refine ⟨_, ?_, fun _ => rfl, by simp [AV.names, L.names]⟩
          simp only [execOp, e1, e2, gL, Sem.run_bind, guard_map, Result.andThen_ok]
          simp [binOp, Op.equal, Op.maxDepth, run_equalIn_map_nil w _ T _ _ _ hu]
        · cases e
    · cases e
  · rename_i xs hx
    have rx := ev_rel C x
    rw [hx] at rx
    split at e
    · rename_i ys hy
      have ry := ev_rel C y
      rw [hy] at ry
      split at e
      · rename_i b hA he
        simp only [Option.some.injEq, Prod.mk.injEq] at e
        obtain ⟨rfl, rfl⟩ := e
        obtain ⟨cx, ex, rx'⟩ := id rx
        obtain ⟨cy, ey, ry'⟩ := id ry
        obtain ⟨hg, hbl⟩ := Bool.or_eq_false_iff.1 hc
        have hq := eqT_run (w := w) 8 T xs ys b he hbl 10000 (by omega) _ _ (.inl ⟨hA, rx⟩) (.inl ⟨hA, ry⟩)
        rw [ex, ey] at hq
        refine ⟨_, ?_, fun _ => rfl, by simp [AV.names, L.names]⟩
        simp only [execOp, ex, ey, Sem.run_bind, run_eqGuard_agg (w := w) _ T x y cx cy hg, Result.andThen_ok, run_eql_struct, hq, Sem.run_pure, gL]
      · rename_i b hA he
        simp only [Option.some.injEq, Prod.mk.injEq] at e
        obtain ⟨rfl, rfl⟩ := e
        obtain ⟨cx, ex, rx'⟩ := id rx
        obtain ⟨cy, ey, ry'⟩ := id ry
        obtain ⟨hg, hbl⟩ := Bool.or_eq_false_iff.1 hc
        have hq := eqT_run (w := w) 8 T xs ys b he hbl 10000 (by omega) _ _ (.inl ⟨hA, rx⟩) (.inl ⟨hA, ry⟩)
        rw [ex, ey] at hq
        refine ⟨_, ?_, fun _ => rfl, by simp [AV.names, L.names]⟩
        simp only [execOp, ex, ey, Sem.run_bind, run_eqGuard_agg (w := w) _ T x y cx cy hg, Result.andThen_ok, run_neq_struct, hq, Sem.run_pure, gL]
      · cases e
    · cases e
  · cases e
theorem neg_run {K : IntKind} {mk : BitVec K.bits → L} (M : Mk ρ K mk) (x : BitVec K.bits) : (Op.unary .neg (.int K (vI K.signed x))).run P w = .ok (gL ρ (mk (-x))) w := by
  simp only [Op.unary, Op.intArith, n_neg, M.val]; rfl
theorem not_run {K : IntKind} {mk : BitVec K.bits → L} (M : Mk ρ K mk) (x : BitVec K.bits) : (Op.unary .xor (.int K (vI K.signed x))).run P w = .ok (gL ρ (mk (~~~x))) w := by
  simp only [Op.unary, Op.intBits, n_not, M.val]; rfl
theorem un_run {op : UnOp} {x l : L} (e : un op x = some l) {u : Value} (hx : RelL ρ x u) : (Op.unary op u).run P w = .ok (gL ρ l) w ∧ l.names = [] := by
  cases op
  case not =>
    cases x <;> simp only [un, reduceCtorEq, Option.some.injEq] at e
    subst e
    rw [hx (by simp)]
    exact ⟨by simp [Op.unary, gL], rfl⟩
  case neg =>
    cases x <;> simp only [un, reduceCtorEq, Option.some.injEq] at e <;> subst e <;> rw [hx (by simp)] <;> refine ⟨?_, rfl⟩ <;> rename_i s x <;> cases s
    · exact neg_run M64u x
    · exact neg_run M64i x
    · exact neg_run M32u x
    · exact neg_run M32i x
    · exact neg_run M16u x
    · exact neg_run M16i x
    · exact neg_run M8u x
    · exact neg_run M8i x
  case xor =>
    cases x <;> simp only [un, reduceCtorEq, Option.some.injEq] at e <;> subst e <;> rw [hx (by simp)] <;> refine ⟨?_, rfl⟩ <;> rename_i s x <;> cases s
    · exact not_run M64u x
    · exact not_run M64i x
    · exact not_run M32u x
    · exact not_run M32i x
    · exact not_run M16u x
    · exact not_run M16i x
    · exact not_run M8u x
    · exact not_run M8i x
  all_goals simp [un] at e
theorem ok_unOp (C : Ctx ρ t h a w) {dst : Option Tmp} {op : UnOp} {T : TypeId} {x : Operand} {ty : TypeId} {pos : String} {after : Array Edge} {gu : Option (Nat × Bool)} {c : Cond} {r : Req}
    (e : req P (.unOp op T x) t = some (c, r)) : ReqOK P ρ h a w ⟨dst, .unOp op T x, ty, pos, after, gu⟩ r := by
  simp only [req] at e
  split at e
  · rename_i lx hx
    have rx := ev_rel C x
    rw [hx] at rx
    split at e
    · rename_i v hv
      simp only [Option.some.injEq, Prod.mk.injEq] at e
      obtain ⟨-, rfl⟩ := e
      obtain ⟨h1, h2⟩ := un_run (P := P) (w := w) hv rx
      exact ⟨_, by simp [execOp, h1], fun _ => rfl, by simp [AV.names, h2]⟩
    · cases e
  · cases e
theorem convTo_run {w' : Nat} {K : IntKind} {s : Bool} {x : BitVec w'} {l : L} (e : convTo K s x = some l) : gL ρ l = .int K (K.wrap (vI s x)) ∧ l.names = [] := by
  rw [n_conv]
  cases K <;> cases s <;> simp only [convTo, pickO, Option.some.injEq] at e <;> subst e <;> exact ⟨rfl, rfl⟩
theorem wrap_twice (K : IntKind) (s : Bool) (x : BitVec K.bits) : K.wrap (vI s x) = vI K.signed x := by
  rw [wrap_vI, ofInt_vI]
theorem conv_run {K : IntKind} {x l : L} (e : conv K x = some l) {u : Value} (hx : RelL ρ x u) : ∃ k m, u = .int k m ∧ gL ρ l = .int K (K.wrap m) ∧ l.names = [] := by
  cases x with
  | b64 s x =>
    refine ⟨_, _, hx (by simp), ?_⟩
    cases K <;> simp only [conv] at e <;> first | exact convTo_run e | (obtain rfl := Option.some.inj e; first | exact ⟨congrArg (Value.int .u64) (wrap_twice .u64 s x).symm, rfl⟩ | exact ⟨congrArg (Value.int .i64) (wrap_twice .i64 s x).symm, rfl⟩ | exact ⟨congrArg (Value.int .u32) (wrap_twice .u32 s x).symm, rfl⟩ | exact ⟨congrArg (Value.int .i32) (wrap_twice .i32 s x).symm, rfl⟩ | exact ⟨congrArg (Value.int .u16) (wrap_twice .u16 s x).symm, rfl⟩ | exact ⟨congrArg (Value.int .i16) (wrap_twice .i16 s x).symm, rfl⟩ | exact ⟨congrArg (Value.int .u8) (wrap_twice .u8 s x).symm, rfl⟩ | exact ⟨congrArg (Value.int .i8) (wrap_twice .i8 s x).symm, rfl⟩)
  | b32 s x =>
    refine ⟨_, _, hx (by simp), ?_⟩
    cases K <;> simp only [conv] at e <;> first | exact convTo_run e | (obtain rfl := Option.some.inj e; first | exact ⟨congrArg (Value.int .u64) (wrap_twice .u64 s x).symm, rfl⟩ | exact ⟨congrArg (Value.int .i64) (wrap_twice .i64 s x).symm, rfl⟩ | exact ⟨congrArg (Value.int .u32) (wrap_twice .u32 s x).symm, rfl⟩ | exact ⟨congrArg (Value.int .i32) (wrap_twice .i32 s x).symm, rfl⟩ | exact ⟨congrArg (Value.int .u16) (wrap_twice .u16 s x).symm, rfl⟩ | exact ⟨congrArg (Value.int .i16) (wrap_twice .i16 s x).symm, rfl⟩ | exact ⟨congrArg (Value.int .u8) (wrap_twice .u8 s x).symm, rfl⟩ | exact ⟨congrArg (Value.int .i8) (wrap_twice .i8 s x).symm, rfl⟩)
  | b16 s x =>
    refine ⟨_, _, hx (by simp), ?_⟩
    cases K <;> simp only [conv] at e <;> first | exact convTo_run e | (obtain rfl := Option.some.inj e; first | exact ⟨congrArg (Value.int .u64) (wrap_twice .u64 s x).symm, rfl⟩ | exact ⟨congrArg (Value.int .i64) (wrap_twice .i64 s x).symm, rfl⟩ | exact ⟨congrArg (Value.int .u32) (wrap_twice .u32 s x).symm, rfl⟩ | exact ⟨congrArg (Value.int .i32) (wrap_twice .i32 s x).symm, rfl⟩ | exact ⟨congrArg (Value.int .u16) (wrap_twice .u16 s x).symm, rfl⟩ | exact ⟨congrArg (Value.int .i16) (wrap_twice .i16 s x).symm, rfl⟩ | exact ⟨congrArg (Value.int .u8) (wrap_twice .u8 s x).symm, rfl⟩ | exact ⟨congrArg (Value.int .i8) (wrap_twice .i8 s x).symm, rfl⟩)
  | b8 s x =>
    refine ⟨_, _, hx (by simp), ?_⟩
    cases K <;> simp only [conv] at e <;> first | exact convTo_run e | (obtain rfl := Option.some.inj e; first | exact ⟨congrArg (Value.int .u64) (wrap_twice .u64 s x).symm, rfl⟩ | exact ⟨congrArg (Value.int .i64) (wrap_twice .i64 s x).symm, rfl⟩ | exact ⟨congrArg (Value.int .u32) (wrap_twice .u32 s x).symm, rfl⟩ | exact ⟨congrArg (Value.int .i32) (wrap_twice .i32 s x).symm, rfl⟩ | exact ⟨congrArg (Value.int .u16) (wrap_twice .u16 s x).symm, rfl⟩ | exact ⟨congrArg (Value.int .i16) (wrap_twice .i16 s x).symm, rfl⟩ | exact ⟨congrArg (Value.int .u8) (wrap_twice .u8 s x).symm, rfl⟩ | exact ⟨congrArg (Value.int .i8) (wrap_twice .i8 s x).symm, rfl⟩)
  | _ => simp [conv] at e
theorem bytes_rel : ∀ {ls : List L} {vs : List Value} {bs : List UInt8}, bytesL ls = some bs → RelLs ρ ls vs → vs = bs.map fun b => .int .u8 (b.toNat : Int)
  | [], vs, bs, e, h => by cases h; simp [bytesL] at e; subst e; rfl
  | l :: ls, vs, bs, e, h => by
    cases l with
    | b8 s x =>
      cases s with
      | true => simp [bytesL] at e
      | false =>
        simp only [bytesL] at e
        split at e
        · rename_i r hr
          obtain rfl := Option.some.inj e
          obtain ⟨v, ws, rfl, h1, h2⟩ := (relLs_cons rfl).1 h
          rw [bytes_rel hr h2, h1 (by simp)]
          simp only [List.map_cons]
          rfl
        · cases e
    | _ => simp [bytesL] at e
theorem nums_back (bs : List UInt8) : strOfNums (bs.map fun b => (b.toNat : Int)) = ⟨⟨bs⟩⟩ := by
  simp only [strOfNums, List.map_map]
  have : (fun n : Int => UInt8.ofNat n.toNat) ∘ (fun b : UInt8 => (b.toNat : Int)) = id := by
    funext b
    simp
  rw [this]
  simp
theorem conv_bytes {src d el : TypeId} (hs : P.underlying src = some (.slice el)) (he : P.underlying el = some (.int .u8)) (hd : P.underlying d = some .string) {x : Operand} {g o off n cp : Nat}
    (hev : a.eval x = .slice (some ⟨g, o + off, none⟩) n cp) {T' : TypeId} {cs : Array Value} {fr : Nat × Nat} (hcell : w.heap[g]? = some (.cells cs T' fr)) {us ws : List Value} (hd' : cs.toList.drop o = us ++ ws)
    {bs : List UInt8} (hxs : (us.drop off).take n = bs.map fun b => Value.int .u8 (b.toNat : Int)) (h2 : n ≤ us.length - off) {B : ByteArray} (hB : B = ⟨⟨bs⟩⟩) {dst : Option Tmp} {ty : TypeId} {pos : String} {after : Array Edge} {gu : Option (Nat × Bool)} :
    ∃ u, (execOp a.eval ⟨dst, .convert src d x, ty, pos, after, gu⟩).run P w = .ok (.value u) w ∧ RelA ρ (.one (.str B)) u ∧ ∀ m ∈ (AV.one (.str B)).names, h m ≠ none := by
  subst hB
  have hlen : bs.length = n := by
    have := congrArg List.length hxs
    simp at this; omega
  refine ⟨.string ⟨⟨bs⟩⟩, ?_, fun _ => rfl, by simp [AV.names, L.names]⟩
  have hrun := run_convert_bytes_arg (P := P) w src el hs he g (o + off) n cp (bs.map fun b => (b.toNat : Int)) (by simpa using hlen) (fun j hj => by
    rw [cell_of_rel hcell]
    have hj' := congrArg (fun l => l[j]?) hxs
    simp only [List.getElem?_take, List.getElem?_drop, List.getElem?_map, if_pos hj] at hj'
    have hjb : j < bs.length := by omega
    rw [List.getElem?_eq_getElem hjb] at hj'
    simp only [Option.map_some] at hj'
    have h3 : (cs.toList.drop o)[off + j]? = us[off + j]? := by rw [hd', List.getElem?_append_left (by omega)]
    rw [List.getElem?_drop, hj', ← Nat.add_assoc] at h3
    rw [← Array.getElem?_toList, h3]
    simp [List.getD, List.getElem?_eq_getElem hjb]) d hd
  rw [nums_back] at hrun
  simp [execOp, hev, hrun]
theorem isB8_eq {ps : List PL} (h : isB8 ps = true) : ∃ x, ps = [.b8 false x] := by
  unfold isB8 at h
  split at h
  · exact ⟨_, rfl⟩
  · cases h
theorem ok_convert (C : Ctx ρ t h a w) {dst : Option Tmp} {src d : TypeId} {x : Operand} {ty : TypeId} {pos : String} {after : Array Edge} {gu : Option (Nat × Bool)} {c : Cond} {r : Req}
    (e : req P (.convert src d x) t = some (c, r)) : ReqOK P ρ h a w ⟨dst, .convert src d x, ty, pos, after, gu⟩ r := by
  simp only [req] at e
  split at e
  · rename_i i off n cp hx
    obtain ⟨hev, hin⟩ := ev_slc C hx
    split at e
    · rename_i el hs hd
      split at e
      · rename_i he
        simp only [Option.some.injEq, Prod.mk.injEq] at e
        obtain ⟨-, rfl⟩ := e
        refine ⟨hin, fun b hb c v hv _ => ?_⟩
        dsimp only at hv
        split at hv
        · rename_i ls hls
          obtain ⟨T', cs, fr, us, ws, hcell, hd', hr, -⟩ := rd_get C hb hls
          split at hv
          · rename_i r ht
            split at hv
            · rename_i bs hbs
              simp only [Option.some.injEq, Prod.mk.injEq] at hv
              obtain ⟨-, rfl⟩ := hv
              have ⟨h1, h2⟩ := relLs_take _ ht (relLs_drop off hr)
              have hxs := bytes_rel hbs h1
              exact conv_bytes hs he hd hev hcell hd' hxs (by simpa using h2) rfl
            · cases hv
          · cases hv
        · cases hv
      · cases e
    · cases e
  · rename_i i n hx
    obtain ⟨hev, hin⟩ := ev_rsl C hx
    split at e
    · rename_i el hs hd
      split at e
      · rename_i he
        simp only [Option.some.injEq, Prod.mk.injEq] at e
        obtain ⟨-, rfl⟩ := e
        refine ⟨hin, fun b hb c v hv hcc => ?_⟩
        dsimp only at hv
        split at hv
        · rename_i ls hls
          split at hv
          · rename_i z n' f
            obtain ⟨T', cs, fr, us, ws, hcell, hd', hr, -⟩ := rd_get C hb hls
            split at hv
            · rename_i hz
              have hz' : z = 1 := by simpa using hz
              subst hz'
              simp only [Option.some.injEq, Prod.mk.injEq] at hv
              obtain ⟨rfl, rfl⟩ := hv
              obtain ⟨hnn, hf0⟩ : n ≤ n' ∧ ∀ k, k < n → isB8 (f k) = true := hcc
              have hf : ∀ k, k < n → ∃ x, f k = [.b8 false x] := fun k hk => isB8_eq (hf0 k hk)
              obtain ⟨us', ws', rfl, hseg, hw'⟩ := hr
              cases hw'
              have hseg : SegV 1 n' f us' := hseg
              have hxs : ((us' ++ []).drop 0).take n = ((List.range n).map fun k => byteP (f k)).map fun b => Value.int .u8 (b.toNat : Int) := by
                rw [List.drop_zero, List.append_nil]
                apply List.ext_getElem?
                intro j
                rw [List.getElem?_take]
                split
                · rename_i hj
                  obtain ⟨x, hx⟩ := hf j hj
                  have := (hseg.2 j (by omega)).2 0 (by omega)
                  rw [Nat.one_mul, Nat.add_zero, hx] at this
                  rw [this, List.getElem?_map, List.getElem?_map, List.getElem?_range hj]
                  simp only [Option.map_some, hx, byteP]
                  rfl
                · rename_i hj
                  rw [List.getElem?_eq_none (by simp; omega)]
              have hl := hseg.1
              exact conv_bytes hs he hd (off := 0) (by simpa using hev) hcell hd' hxs (by simp; omega) rfl
            · cases hv
          · cases hv
        · cases hv
      · cases e
    · cases e
  · rename_i hx
    have rx := ev_rel C x
    rw [hx] at rx
    have hev := rx (by simp)
    simp only [gL] at hev
    split at e
    · rename_i el hs hd
      split at e
      · rename_i he
        simp only [Option.some.injEq, Prod.mk.injEq] at e
        obtain ⟨-, rfl⟩ := e
        refine ⟨.string ⟨⟨[]⟩⟩, ?_, fun _ => rfl, by simp [AV.names, L.names]⟩
        have hrun := run_convert_bytes_nil (P := P) w src el hs he 0 0 d hd
        simp only [execOp, Sem.run_bind, hev, hrun, Result.andThen_ok]
        rfl
      · cases e
    · cases e
  · rename_i lx _ _ hx
    have rx := ev_rel C x
    rw [hx] at rx
    split at e
    · rename_i ds k hs hd
      split at e
      · rename_i v hv
        simp only [Option.some.injEq, Prod.mk.injEq] at e
        obtain ⟨-, rfl⟩ := e
        obtain ⟨k', m, hk, h1, h2⟩ := conv_run hv rx
        refine ⟨_, ?_, fun _ => rfl, by simp [AV.names, h2]⟩
        rw [h1]
        simp [execOp, convert, hk, run_underlying hs, run_underlying hd, Conv.intToInt]
      · cases e
    · cases e
  · cases e

theorem min2_run {x y l : L} (e : min2 x y = some l) {u v : Value} (hx : RelL ρ x u) (hy : RelL ρ y v) : (Builtin.min2 u v).run P w = .ok (gL ρ l) w ∧ l.names = [] := by
  cases x with
  | b64 s x =>
    cases y <;> simp only [min2, reduceCtorEq] at e
    obtain ⟨hs, e2⟩ := same_some e
    subst hs
    rw [hx (by simp), hy (by simp)]
    cases s <;> obtain rfl := Option.some.inj e2 <;> refine ⟨?_, rfl⟩
    · simp only [gL, Builtin.min2, show ∀ p q : BitVec _, p.ult q = ltW false p q from fun _ _ => rfl, ← n_lt, decide_eq_true_eq]
      split <;> rfl
    · simp only [gL, Builtin.min2, show ∀ p q : BitVec _, p.slt q = ltW true p q from fun _ _ => rfl, ← n_lt, decide_eq_true_eq]
      split <;> rfl
  | b32 s x =>
    cases y <;> simp only [min2, reduceCtorEq] at e
    obtain ⟨hs, e2⟩ := same_some e
    subst hs
    rw [hx (by simp), hy (by simp)]
    cases s <;> obtain rfl := Option.some.inj e2 <;> refine ⟨?_, rfl⟩
    · simp only [gL, Builtin.min2, show ∀ p q : BitVec _, p.ult q = ltW false p q from fun _ _ => rfl, ← n_lt, decide_eq_true_eq]
      split <;> rfl
    · simp only [gL, Builtin.min2, show ∀ p q : BitVec _, p.slt q = ltW true p q from fun _ _ => rfl, ← n_lt, decide_eq_true_eq]
      split <;> rfl
  | b16 s x =>
    cases y <;> simp only [min2, reduceCtorEq] at e
    obtain ⟨hs, e2⟩ := same_some e
    subst hs
    rw [hx (by simp), hy (by simp)]
    cases s <;> obtain rfl := Option.some.inj e2 <;> refine ⟨?_, rfl⟩
    · simp only [gL, Builtin.min2, show ∀ p q : BitVec _, p.ult q = ltW false p q from fun _ _ => rfl, ← n_lt, decide_eq_true_eq]
      split <;> rfl
    · simp only [gL, Builtin.min2, show ∀ p q : BitVec _, p.slt q = ltW true p q from fun _ _ => rfl, ← n_lt, decide_eq_true_eq]
      split <;> rfl
  | b8 s x =>
    cases y <;> simp only [min2, reduceCtorEq] at e
    obtain ⟨hs, e2⟩ := same_some e
    subst hs
    rw [hx (by simp), hy (by simp)]
    cases s <;> obtain rfl := Option.some.inj e2 <;> refine ⟨?_, rfl⟩
    · simp only [gL, Builtin.min2, show ∀ p q : BitVec _, p.ult q = ltW false p q from fun _ _ => rfl, ← n_lt, decide_eq_true_eq]
      split <;> rfl
    · simp only [gL, Builtin.min2, show ∀ p q : BitVec _, p.slt q = ltW true p q from fun _ _ => rfl, ← n_lt, decide_eq_true_eq]
      split <;> rfl
  | _ => cases y <;> simp [min2] at e
theorem max2_run {x y l : L} (e : max2 x y = some l) {u v : Value} (hx : RelL ρ x u) (hy : RelL ρ y v) : (Builtin.max2 u v).run P w = .ok (gL ρ l) w ∧ l.names = [] := by
  cases x with
  | b64 s x =>
    cases y <;> simp only [max2, reduceCtorEq] at e
    obtain ⟨hs, e2⟩ := same_some e
    subst hs
    rw [hx (by simp), hy (by simp)]
    cases s <;> obtain rfl := Option.some.inj e2 <;> refine ⟨?_, rfl⟩
    · simp only [gL, Builtin.max2, show ∀ p q : BitVec _, p.ult q = ltW false p q from fun _ _ => rfl, ← n_lt, decide_eq_true_eq]
      split <;> rfl
    · simp only [gL, Builtin.max2, show ∀ p q : BitVec _, p.slt q = ltW true p q from fun _ _ => rfl, ← n_lt, decide_eq_true_eq]
      split <;> rfl
  | b32 s x =>
    cases y <;> simp only [max2, reduceCtorEq] at e
    obtain ⟨hs, e2⟩ := same_some e
    subst hs
    rw [hx (by simp), hy (by simp)]
    cases s <;> obtain rfl := Option.some.inj e2 <;> refine ⟨?_, rfl⟩
    · simp only [gL, Builtin.max2, show ∀ p q : BitVec _, p.ult q = ltW false p q from fun _ _ => rfl, ← n_lt, decide_eq_true_eq]
      split <;> rfl
    · simp only [gL, Builtin.max2, show ∀ p q : BitVec _, p.slt q = ltW true p q from fun _ _ => rfl, ← n_lt, decide_eq_true_eq]
      split <;> rfl
  | b16 s x =>
    cases y <;> simp only [max2, reduceCtorEq] at e
    obtain ⟨hs, e2⟩ := same_some e
    subst hs
    rw [hx (by simp), hy (by simp)]
    cases s <;> obtain rfl := Option.some.inj e2 <;> refine ⟨?_, rfl⟩
    · simp only [gL, Builtin.max2, show ∀ p q : BitVec _, p.ult q = ltW false p q from fun _ _ => rfl, ← n_lt, decide_eq_true_eq]
      split <;> rfl
    · simp only [gL, Builtin.max2, show ∀ p q : BitVec _, p.slt q = ltW true p q from fun _ _ => rfl, ← n_lt, decide_eq_true_eq]
      split <;> rfl
  | b8 s x =>
    cases y <;> simp only [max2, reduceCtorEq] at e
    obtain ⟨hs, e2⟩ := same_some e
    subst hs
    rw [hx (by simp), hy (by simp)]
    cases s <;> obtain rfl := Option.some.inj e2 <;> refine ⟨?_, rfl⟩
    · simp only [gL, Builtin.max2, show ∀ p q : BitVec _, p.ult q = ltW false p q from fun _ _ => rfl, ← n_lt, decide_eq_true_eq]
      split <;> rfl
    · simp only [gL, Builtin.max2, show ∀ p q : BitVec _, p.slt q = ltW true p q from fun _ _ => rfl, ← n_lt, decide_eq_true_eq]
      split <;> rfl
  | _ => cases y <;> simp [max2] at e
theorem evs_two {xs : List Operand} {x y : L} (C : Ctx ρ t h a w) (e : evs t xs = [.one x, .one y]) : ∃ u v, xs.map a.eval = [u, v] ∧ RelL ρ x u ∧ RelL ρ y v := by
  have hr := evs_rel C xs
  rw [e] at hr
  generalize xs.map a.eval = us at *
  match us, hr with
  | [u, v], ⟨h1, h2, _⟩ => exact ⟨u, v, rfl, h1, h2⟩
theorem evs_three {xs : List Operand} {x y z : L} (C : Ctx ρ t h a w) (e : evs t xs = [.one x, .one y, .one z]) : ∃ u v q, xs.map a.eval = [u, v, q] ∧ RelL ρ x u ∧ RelL ρ y v ∧ RelL ρ z q := by
  have hr := evs_rel C xs
  rw [e] at hr
  generalize xs.map a.eval = us at *
  match us, hr with
  | [u, v, q], ⟨h1, h2, h3, _⟩ => exact ⟨u, v, q, rfl, h1, h2, h3⟩
theorem evs_one {xs : List Operand} {x : L} (C : Ctx ρ t h a w) (e : evs t xs = [.one x]) : ∃ u, xs.map a.eval = [u] ∧ RelL ρ x u := by
  have hr := evs_rel C xs
  rw [e] at hr
  generalize xs.map a.eval = us at *
  match us, hr with
  | [u], ⟨h1, _⟩ => exact ⟨u, rfl, h1⟩
theorem vI_len {n : Nat} (h : n < 9223372036854775808) : vI true (BitVec.ofNat 64 n) = (n : Int) := by
  simp only [vI, BitVec.toInt_ofNat']
  rw [Int.bmod_eq_of_le] <;> omega
theorem src_there {g o off m cp z : Nat} {T T' e : TypeId} (hT : P.underlying T = some (.slice e)) {cs : Array Value} {fr : Nat × Nat} (hcell : w.heap[g]? = some (.cells cs T' fr)) {us ws : List Value} (hd : cs.toList.drop o = us ++ ws) {v : Value}
    (hv : v = .slice (some ⟨g, o + off, none⟩) m cp) {f : Nat → List PL} (h1 : z * m ≤ (us.drop off).length) (h2 : (∀ j, j < m → (f j).length = z) → SegV z m f ((us.drop off).take (z * m))) (hz : ∀ j, j < m → (f j).length = z) :
    ∃ news, _root_.Go.Src P z T v m news w ∧ SegV z m f news := by
  subst hv
  refine ⟨(us.drop off).take (z * m), .ofSlice w hT _ _ _ _ ?_ (fun i u hu => ?_) (fun u hu => ?_), h2 hz⟩
  · rw [List.length_take, Nat.min_eq_left h1, Nat.mul_comm]
  · rw [addr_add, cell_of_rel hcell]
    rw [List.getElem?_take] at hu
    split at hu
    · rw [List.getElem?_drop] at hu
      have h3 : (cs.toList.drop o)[off + i]? = some u := by rw [hd, List.getElem?_append_left (List.getElem?_eq_some_iff.1 hu).1]; exact hu
      rw [List.getElem?_drop, ← Nat.add_assoc] at h3
      simpa using h3
    · cases hu
  · obtain ⟨p, rfl⟩ := (h2 hz).mem hu
    exact gP_one p
theorem byteAt_get (s : ByteArray) (k : Nat) (hk : k < s.size) : (byteCells s)[k]? = some (gP (.b8 false (byteAt s k))) := by
  have h : ∀ (l : List UInt8) (k : Nat), k < l.length → (l.map fun b => Value.int .u8 b.toNat)[k]? = some (gP (.b8 false (nthB l k))) := by
    intro l
    induction l with
    | nil => intro k hk; simp at hk
    | cons x l ih =>
      intro k hk
      cases k with
      | zero => simp [nthB, gP, vI]; rfl
      | succ k => simpa [nthB] using ih k (by simpa using hk)
  exact h s.data.toList k (by simpa using hk)
theorem seg_str (s : ByteArray) : SegV 1 s.size (fun k => [.b8 false (byteAt s k)]) (byteCells s) := by
  refine ⟨by rw [byteCells_length, Nat.one_mul], fun k hk => ⟨rfl, fun j hj => ?_⟩⟩
  obtain rfl : j = 0 := by omega
  rw [Nat.one_mul, Nat.add_zero, byteAt_get s k hk]
  rfl
theorem ok_call (C : Ctx ρ t h a w) {dst : Option Tmp} {cl : Call} {ty : TypeId} {pos : String} {after : Array Edge} {gu : Option (Nat × Bool)} {c : Cond} {r : Req}
    (e : req P (.call cl) t = some (c, r)) (hc : c.holds) : ReqOK P ρ h a w ⟨dst, .call cl, ty, pos, after, gu⟩ r := by
  obtain ⟨callee, args, ats⟩ := cl
  simp only [req] at e
  split at e
  · rename_i f
    simp only [Option.some.injEq, Prod.mk.injEq] at e
    obtain ⟨-, rfl⟩ := e
    refine ⟨args.toList.map a.eval, evs_rel C _, ?_, evs_names C _⟩
    simp [execOp, resolve, Act.eval, Deferred.ofValue, invoke]
    rw [← Array.toList_map, Array.toArray_toList]
  · rename_i n
    split at e
    · rename_i f fst cap hx
      split at e
      · rename_i hf hcap
        simp only [Option.some.injEq, Prod.mk.injEq] at e
        obtain ⟨-, rfl⟩ := e
        obtain rfl : fst = #[] := by cases fst; simp_all
        obtain rfl : cap = #[] := by cases cap; simp_all
        have hev : a.eval (.tmp n) = .func (.func f) #[] #[] := by
          have hr := ev_rel C (.tmp n)
          rw [show ev t (.tmp n) = getT t n from rfl, hx] at hr
          exact hr (by simp)
        refine ⟨args.toList.map a.eval, evs_rel C _, ?_, evs_names C _⟩
        simp only [execOp, resolve, hev]
        simp [Deferred.ofValue, invoke]
        rw [← Array.toList_map, Array.toArray_toList]
      · cases e
    · rename_i f caps hx
      simp only [Option.some.injEq, Prod.mk.injEq] at e
      obtain ⟨-, rfl⟩ := e
      have hr := ev_rel C (.tmp n)
      have hnm := ev_names C (.tmp n)
      rw [show ev t (.tmp n) = getT t n from rfl, hx] at hr hnm
      have hev : a.eval (.tmp n) = .func (.func f) #[] (capVals ρ caps).toArray := hr (by simp)
      refine ⟨args.toList.map a.eval ++ capVals ρ caps, relAs_append (evs_rel C _) (capVs_rel ρ caps), ?_, ?_⟩
      · have e1 : (args.toList.map a.eval ++ capVals ρ caps).toArray = args.map a.eval ++ (capVals ρ caps).toArray := by
          apply Array.toList_inj.1
          simp
        simp only [execOp, resolve, hev]
        rw [e1]
        simp [Deferred.ofValue, invoke]
      · intro v hv m hm
        rcases List.mem_append.1 hv with hv | hv
        · exact evs_names C _ v hv m hm
        · exact hnm m (by simpa [AV.names, L.names] using capVs_names hv hm)
    · cases e
  · split at e
    · rename_i T i off n cp hT hx
      obtain ⟨u, hm, hu⟩ := evs_one C hx
      split at e
      · rename_i el hT'
        simp only [Option.some.injEq, Prod.mk.injEq] at e
        obtain ⟨rfl, rfl⟩ := e
        have hv := hu (by simp)
        have ha : ats = #[T] := by cases ats; simp_all
        refine ⟨_, ?_, fun _ => rfl, by simp [AV.names, L.names]⟩
        have hm' : args.map a.eval = #[u] := by
          have : (args.map a.eval).toList = [u] := by rw [Array.toList_map]; exact hm
          cases h : args.map a.eval; simp_all
        simp only [execOp, resolve, hm', invoke, builtin, Builtin.len_, ha]
        simp [run_underlying hT', hv, gL, goInt, vI_len hc, k64]
      · cases e
    · rename_i T str hT hx
      obtain ⟨u, hm, hu⟩ := evs_one C hx
      split at e
      · rename_i hT'
        simp only [Option.some.injEq, Prod.mk.injEq] at e
        obtain ⟨rfl, rfl⟩ := e
        have hv := hu (by simp)
        have ha : ats = #[T] := by cases ats; simp_all
        refine ⟨_, ?_, fun _ => rfl, by simp [AV.names, L.names]⟩
        have hm' : args.map a.eval = #[u] := by
          have : (args.map a.eval).toList = [u] := by rw [Array.toList_map]; exact hm
          cases h : args.map a.eval; simp_all
        simp only [execOp, resolve, hm', invoke, builtin, Builtin.len_, ha]
        simp [run_underlying hT', hv, gL, goInt, vI_len hc, k64]
      · cases e
    · rename_i T i n hT hx
      obtain ⟨u, hm, hu⟩ := evs_one C hx
      split at e
      · rename_i el hT'
        simp only [Option.some.injEq, Prod.mk.injEq] at e
        obtain ⟨rfl, rfl⟩ := e
        have hv := hu (by simp)
        have ha : ats = #[T] := by cases ats; simp_all
        refine ⟨_, ?_, fun _ => rfl, by simp [AV.names, L.names]⟩
        have hm' : args.map a.eval = #[u] := by
          have : (args.map a.eval).toList = [u] := by rw [Array.toList_map]; exact hm
          cases h : args.map a.eval; simp_all
        simp only [execOp, resolve, hm', invoke, builtin, Builtin.len_, ha]
        simp [run_underlying hT', hv, gL, goInt, vI_len hc, k64]
      · cases e
    · rename_i T i z k n hT hx
      obtain ⟨u, hm, hu⟩ := evs_one C hx
      split at e
      · rename_i el hT'
        simp only [Option.some.injEq, Prod.mk.injEq] at e
        obtain ⟨rfl, rfl⟩ := e
        have hv := hu (by simp)
        have ha : ats = #[T] := by cases ats; simp_all
        refine ⟨_, ?_, fun _ => rfl, by simp [AV.names, L.names]⟩
        have hm' : args.map a.eval = #[u] := by
          have : (args.map a.eval).toList = [u] := by rw [Array.toList_map]; exact hm
          cases h : args.map a.eval; simp_all
        simp only [execOp, resolve, hm', invoke, builtin, Builtin.len_, ha]
        simp [run_underlying hT', hv, gL, goInt, vI_len hc, k64]
      · cases e
    · rename_i T ad cp hT hx
      obtain ⟨u, hm, hu⟩ := evs_one C hx
      split at e
      · rename_i el hT'
        simp only [Option.some.injEq, Prod.mk.injEq] at e
        obtain ⟨rfl, rfl⟩ := e
        have hv := hu (by simp)
        have ha : ats = #[T] := by cases ats; simp_all
        refine ⟨_, ?_, fun _ => rfl, by simp [AV.names, L.names]⟩
        have hm' : args.map a.eval = #[u] := by
          have : (args.map a.eval).toList = [u] := by rw [Array.toList_map]; exact hm
          cases h : args.map a.eval; simp_all
        simp only [execOp, resolve, hm', invoke, builtin, Builtin.len_, ha]
        simp [run_underlying hT', hv, gL, goInt, k64, vI]
      · cases e
    · rename_i T i hT hx
      obtain ⟨u, hm, hu⟩ := evs_one C hx
      have hin : h i ≠ none := evs_names C args.toList (.one (.imap i)) (by rw [hx]; simp) i (by simp [AV.names, L.names])
      split at e
      · rename_i kt et hT'
        simp only [Option.some.injEq, Prod.mk.injEq] at e
        obtain ⟨-, rfl⟩ := e
        have hv := hu (by simp)
        have ha : ats = #[T] := by cases ats; simp_all
        refine ⟨hin, fun b hb c v hbv hcc => ?_⟩
        cases b with
        | imap es =>
          simp only [Option.some.injEq, Prod.mk.injEq] at hbv
          obtain ⟨rfl, rfl⟩ := hbv
          have hlen : es.length < 9223372036854775808 := hcc
          obtain ⟨ents, clock, hw, hes⟩ := C.heap i _ hb
          have hsz : ents.size = es.length := by
            have := congrArg List.length hes
            simpa [entsOf] using this
          refine ⟨_, ?_, fun _ => rfl, by simp [AV.names, L.names]⟩
          have hm' : args.map a.eval = #[u] := by
            have : (args.map a.eval).toList = [u] := by rw [Array.toList_map]; exact hm
            cases h : args.map a.eval; simp_all
          simp only [execOp, resolve, hm', invoke, builtin, Builtin.len_, ha]
          simp [run_underlying hT', hv, gL, goInt, vI_len hlen, k64, MapKept.run_getObj_map hw, hsz]
        | romap es =>
          simp only [Option.some.injEq, Prod.mk.injEq] at hbv
          obtain ⟨rfl, rfl⟩ := hbv
          have hlen : es.length < 9223372036854775808 := hcc
          obtain ⟨ents, clock, hw, hes⟩ := C.heap i _ hb
          have hsz : ents.size = es.length := by
            have := congrArg List.length hes
            simpa [entsOf] using this
          refine ⟨_, ?_, fun _ => rfl, by simp [AV.names, L.names]⟩
          have hm' : args.map a.eval = #[u] := by
            have : (args.map a.eval).toList = [u] := by rw [Array.toList_map]; exact hm
            cases h : args.map a.eval; simp_all
          simp only [execOp, resolve, hm', invoke, builtin, Builtin.len_, ha]
          simp [run_underlying hT', hv, gL, goInt, vI_len hlen, k64, MapKept.run_getObj_map hw, hsz]
        | _ => simp at hbv
      · cases e
    · cases e
  · split at e
    · rename_i T T' x y hT hxy
      obtain ⟨u, v, hm, hx, hy⟩ := evs_two C hxy
      split at e
      · rename_i el hu
        split at e
        · rename_i inf hi
          split at e
          · rename_i base zv hbase hz
            split at e
            · rename_i h1 h2 h3
              have ha : ats = #[T, T'] := by cases ats; simp_all
              have hm' : args.map a.eval = #[u, v] := by
                have : (args.map a.eval).toList = [u, v] := by rw [Array.toList_map]; exact hm
                cases h : args.map a.eval; simp_all
              have hrun : ∀ r w', (Builtin.append_ #[T, T'] ty #[u, v]).run P w = .ok r w' → (execOp a.eval ⟨dst, .call ⟨.builtin .append, args, ats⟩, ty, pos, after, gu⟩).run P w = .ok (.value r) w' := by
                intro r w' h
                simp only [execOp, resolve, hm', invoke, builtin, ha, Sem.run_bind, Sem.run_pure, Result.andThen_ok, h]
              have hbs : match (generalizing := false) base with | none => u = .slice none 0 0 | some (i, n) => u = .slice (some ⟨(ρ i).b, (ρ i).o, none⟩) n (ρ i).c ∧ h i ≠ none := by
                split at hbase
                · obtain rfl := Option.some.inj hbase
                  exact hx (by simp)
                · rename_i i n
                  obtain rfl := Option.some.inj hbase
                  exact ⟨hx (by simp), evs_names C args.toList (.one (.rsl i n)) (by rw [hxy]; simp) i (by simp [AV.names, L.names])⟩
                · cases hbase
              have h2' : 0 < inf.size := Nat.le_of_ble_eq_true h2
              have h1' : inf.bytes ≤ 4096 := by simpa using h1
              have h3' : zv.cells.size = inf.size := by simpa using h3
              split at e
              · rename_i hTT
                have hTT' : T = T' := by simpa using hTT
                subst hTT'
                split at e
                · rename_i j off m cp
                  simp only [Option.some.injEq, Prod.mk.injEq] at e
                  obtain ⟨rfl, rfl⟩ := e
                  refine ⟨T, T, inf, zv, ty, u, v, hu, hi, hz, rfl, h3', h2', h1', hc, hrun, hbs, evs_names C args.toList (.one (.slc j off m cp)) (by rw [hxy]; simp) j (by simp [AV.names, L.names]), fun b hb c g hg hcc => ?_⟩
                  dsimp only at hg
                  split at hg
                  · rename_i ls hls
                    obtain ⟨T', cs, fr, us, ws, hcell, hd', hr, -⟩ := rd_get C hb hls
                    obtain ⟨q1, q2⟩ := srcF_rel hr hg hcc
                    exact src_there hu hcell hd' (hy (by simp)) q1 q2
                  · cases hg
                · rename_i j m
                  simp only [Option.some.injEq, Prod.mk.injEq] at e
                  obtain ⟨rfl, rfl⟩ := e
                  refine ⟨T, T, inf, zv, ty, u, v, hu, hi, hz, rfl, h3', h2', h1', hc, hrun, hbs, evs_names C args.toList (.one (.rsl j m)) (by rw [hxy]; simp) j (by simp [AV.names, L.names]), fun b hb c g hg hcc => ?_⟩
                  dsimp only at hg
                  split at hg
                  · rename_i ls hls
                    obtain ⟨T', cs, fr, us, ws, hcell, hd', hr, -⟩ := rd_get C hb hls
                    obtain ⟨q1, q2⟩ := srcF_rel hr hg hcc
                    exact src_there hu hcell hd' (off := 0) (by simpa [gL] using hy (by simp)) q1 q2
                  · cases hg
                · rename_i ad cp
                  simp only [Option.some.injEq, Prod.mk.injEq] at e
                  obtain ⟨rfl, rfl⟩ := e
                  have hv : v = .slice ad 0 cp := by simpa [gL] using hy (by simp)
                  refine ⟨T, T, inf, zv, ty, u, v, hu, hi, hz, rfl, h3', h2', h1', hc, hrun, hbs, [], ?_, by simp, fun k hk => absurd hk (by omega)⟩
                  rw [hv]
                  cases ad with
                  | none => exact .ofNil w hu cp
                  | some ad => exact .ofSlice w hu ad 0 cp [] (by simp) (by simp) (by simp)
                · cases e
              · split at e
                · rename_i s
                  split at e
                  · rename_i hstr hs1
                    simp only [Option.some.injEq, Prod.mk.injEq] at e
                    obtain ⟨rfl, rfl⟩ := e
                    have hv : v = .string s := by simpa [gL] using hy (by simp)
                    have hs1' : inf.size = 1 := by simpa using hs1
                    refine ⟨T, T', inf, zv, ty, u, v, hu, hi, hz, rfl, h3', h2', h1', hc, hrun, hbs, byteCells s, ?_, ?_⟩
                    · rw [hv, hs1']; exact .ofString w hstr s
                    · rw [hs1']; exact seg_str s
                  · cases e
                · cases e
            · cases e
          · cases e
        · cases e
      · cases e
    · cases e
  · split at e
    · rename_i x y hxy
      obtain ⟨u, v, hm, hx, hy⟩ := evs_two C hxy
      split at e
      · rename_i l hl
        simp only [Option.some.injEq, Prod.mk.injEq] at e
        obtain ⟨-, rfl⟩ := e
        obtain ⟨h1, h2⟩ := min2_run (P := P) (w := w) hl hx hy
        refine ⟨_, ?_, fun _ => rfl, by simp [AV.names, h2]⟩
        simp [execOp, resolve, invoke, builtin, Builtin.min_, hm, h1]
      · cases e
    · rename_i x y z hxy
      obtain ⟨u, v, q, hm, hx, hy, hz⟩ := evs_three C hxy
      split at e
      · rename_i l hl
        split at e
        · rename_i l' hl'
          simp only [Option.some.injEq, Prod.mk.injEq] at e
          obtain ⟨-, rfl⟩ := e
          obtain ⟨h1, h2⟩ := min2_run (P := P) (w := w) hl hx hy
          obtain ⟨h3, h4⟩ := min2_run (P := P) (w := w) (ρ := ρ) hl' (u := gL ρ l) (fun _ => rfl) hz
          refine ⟨_, ?_, fun _ => rfl, by simp [AV.names, h4]⟩
          simp [execOp, resolve, invoke, builtin, Builtin.min_, hm, h1, h3]
        · cases e
      · cases e
    · cases e
  · split at e
    · rename_i x y hxy
      obtain ⟨u, v, hm, hx, hy⟩ := evs_two C hxy
      split at e
      · rename_i l hl
        simp only [Option.some.injEq, Prod.mk.injEq] at e
        obtain ⟨-, rfl⟩ := e
        obtain ⟨h1, h2⟩ := max2_run (P := P) (w := w) hl hx hy
        refine ⟨_, ?_, fun _ => rfl, by simp [AV.names, h2]⟩
        simp [execOp, resolve, invoke, builtin, Builtin.max_, hm, h1]
      · cases e
    · rename_i x y z hxy
      obtain ⟨u, v, q, hm, hx, hy, hz⟩ := evs_three C hxy
      split at e
      · rename_i l hl
        split at e
        · rename_i l' hl'
          simp only [Option.some.injEq, Prod.mk.injEq] at e
          obtain ⟨-, rfl⟩ := e
          obtain ⟨h1, h2⟩ := max2_run (P := P) (w := w) hl hx hy
          obtain ⟨h3, h4⟩ := max2_run (P := P) (w := w) (ρ := ρ) hl' (u := gL ρ l) (fun _ => rfl) hz
          refine ⟨_, ?_, fun _ => rfl, by simp [AV.names, h4]⟩
          simp [execOp, resolve, invoke, builtin, Builtin.max_, hm, h1, h3]
        · cases e
      · cases e
    · cases e
  · cases e

/-- Parts laid into a value's cells. -/
theorem fold_list (off : Nat) : ∀ {us : List Value} (k : Nat) {cs : Array Value}, off + k + us.length ≤ cs.size →
    ((us.zipIdx k).foldl (fun cs (c, j) => cs.setIfInBounds (off + j) c) cs).toList = cs.toList.take (off + k) ++ us ++ cs.toList.drop (off + k + us.length)
  | [], k, cs, _ => by simp
  | u :: us, k, cs, hl => by
    simp only [List.length_cons] at hl
    simp only [List.zipIdx_cons, List.foldl_cons]
    rw [fold_list off (k + 1) (cs := cs.setIfInBounds (off + k) u) (by simp; omega), Array.toList_setIfInBounds]
    have h1 : (cs.toList.set (off + k) u).take (off + (k + 1)) = cs.toList.take (off + k) ++ [u] := by
      rw [← Nat.add_assoc, List.take_succ_eq_append_getElem (by simp; omega)]
      simp [List.take_set_of_le]
    rw [h1, List.drop_set_of_lt (by omega), List.length_cons, show off + (k + 1) + us.length = off + k + (us.length + 1) by omega]
    simp
def RelP (ρ : Nat → Loc) : List (Nat × AV) → List (Nat × Value) → Prop
  | [], [] => True
  | (i, x) :: r, (j, v) :: s => i = j ∧ RelA ρ x v ∧ RelP ρ r s
  | _, _ => False
theorem evp_rel (C : Ctx ρ t h a w) : ∀ ps : List (Nat × Operand), RelP ρ (evp t ps) (ps.map fun p => (p.1, a.eval p.2))
  | [] => trivial
  | (_, x) :: ps => ⟨rfl, ev_rel C x, evp_rel C ps⟩
theorem fill_run (place : Nat → Option (Nat × Nat)) : ∀ {ps : List (Nat × AV)} {us : List (Nat × Value)} {ls r : List L} {cs : Array Value}, fillLs place ls ps = some r → RelP ρ ps us → RelLs ρ ls cs.toList →
    ∃ cs', Instr.fill place cs us = some cs' ∧ RelLs ρ r cs'.toList
  | [], [], ls, r, cs, e, _, hr => by
    obtain rfl : ls = r := by simpa [fillLs] using e
    exact ⟨cs, rfl, hr⟩
  | (_, x) :: ps, (j, v) :: us, ls, r, cs, e, hp, hr => by
    obtain ⟨rfl, hx, hp⟩ := hp
    simp only [fillLs] at e
    split at e
    · cases e
    · rename_i off size hpl
      split at e
      · cases e
      · rename_i xs hxs
        split at e
        · cases e
        · rename_i hsz
          split at e
          · cases e
          · rename_i ls' hset
            have rx := rel_ls hx hxs
            have hl1 := relLs_len rx
            obtain ⟨h0, hle⟩ := relLs_setLs off hset hr rx
            have hsz' : wids xs = size := by simpa using hsz
            have hn : (decide (v.cells.size ≠ size) || decide (off + v.cells.size > cs.size)) = false := by
              simp at hl1 hle ⊢; omega
            have h1 := fold_list off 0 (us := v.cells.toList) (cs := cs) (by simpa using hle)
            rw [Nat.add_zero] at h1
            rw [← h1] at h0
            obtain ⟨cs', h2, h3⟩ := fill_run place e hp h0
            refine ⟨cs', ?_, h3⟩
            simp only [Instr.fill, hpl, hn, Bool.false_eq_true, if_false]
            rw [← h2]
            congr 1
            rw [← Array.foldl_toList, Array.toList_zipIdx]
  | [], _ :: _, _, _, _, _, hp, _ => hp.elim
  | _ :: _, [], _, _, _, _, hp, _ => hp.elim
theorem fill_names {m : Nat} (place : Nat → Option (Nat × Nat)) : ∀ {ps : List (Nat × AV)} {ls r : List L}, fillLs place ls ps = some r → m ∈ lnames r → m ∈ lnames ls ∨ ∃ p ∈ ps, m ∈ p.2.names
  | [], ls, r, e, hm => by
    obtain rfl : ls = r := by simpa [fillLs] using e
    exact .inl hm
  | (i, x) :: ps, ls, r, e, hm => by
    simp only [fillLs] at e
    split at e
    · cases e
    · split at e
      · cases e
      · rename_i xs hxs
        split at e
        · cases e
        · split at e
          · cases e
          · rename_i ls' hset
            rcases fill_names place e hm with h1 | ⟨p, hp, h1⟩
            · rcases setLs_names _ hset h1 with h1 | h1
              · exact .inl h1
              · rw [ls_names hxs] at h1; exact .inr ⟨(i, x), by simp, h1⟩
            · exact .inr ⟨p, by simp [hp], h1⟩
theorem evp_names (C : Ctx ρ t h a w) : ∀ (ps : List (Nat × Operand)), ∀ p ∈ evp t ps, ∀ m ∈ p.2.names, h m ≠ none
  | [], p, hp, _, _ => by simp [evp] at hp
  | (i, x) :: ps, p, hp, m, hm => by
    rcases List.mem_cons.1 hp with rfl | hp
    · exact ev_names C x m hm
    · exact evp_names C ps p hp m hm
theorem placesOf_eq : ∀ (fs : List Field) (pl : List (Nat × Nat)), placesOf P fs = some pl → fs.mapM (fun f => (P.info? f.type).map fun i => (f.offset, i.size)) = some pl
  | [], pl, e => by simp [placesOf] at e; simp [e]
  | f :: fs, pl, e => by
    simp only [placesOf] at e
    split at e
    · rename_i i r hi hr
      obtain rfl := Option.some.inj e
      simp [List.mapM_cons, hi, placesOf_eq fs r hr]
    · cases e
theorem parts_toList (ps : Array (Nat × Operand)) : (ps.map fun (i, x) => (i, a.eval x)).toList = ps.toList.map fun p => (p.1, a.eval p.2) := by
  rw [Array.toList_map]
theorem ok_build (C : Ctx ρ t h a w) {dst : Option Tmp} {T : TypeId} {ps : Array (Nat × Operand)} {ty : TypeId} {pos : String} {after : Array Edge} {gu : Option (Nat × Bool)} {c : Cond} {r : Req}
    (e : req P (.build T ps) t = some (c, r)) : ReqOK P ρ h a w ⟨dst, .build T ps, ty, pos, after, gu⟩ r := by
  simp only [req] at e
  split at e
  · rename_i inf hi
    split at e
    · rename_i z hz
      split at e
      · rename_i zs hzs
        have rz := rel_ls (ofV_rel (ρ := ρ) z) hzs
        have rz' : RelLs ρ (match ps.toList with | [] => norm P 8 T zs | _ :: _ => zs) z.cells.toList := by
          split
          · exact norm_rel _ _ _ _ rz
          · exact rz
        have nz' : ∀ m, m ∈ lnames (match ps.toList with | [] => norm P 8 T zs | _ :: _ => zs) → m ∈ lnames zs := by
          intro m hm
          split at hm
          · exact norm_names _ _ _ hm
          · exact hm
        split at e
        · rename_i fs hu
          split at e
          · rename_i pl hpl
            split at e
            · rename_i ls hf
              simp only [Option.some.injEq, Prod.mk.injEq] at e
              obtain ⟨-, rfl⟩ := e
              obtain ⟨cs', h1, h2⟩ := fill_run _ hf (evp_rel C ps.toList) rz'
              refine ⟨.agg cs', ?_, ⟨_, rfl, h2⟩, fun m hm => ?_⟩
              · have hpl' : (fun i => pl[i]?) = nth pl := by funext i; rw [nth_eq]
                simp [execOp, Instr.build, run_underlying hu, run_typeInfo (P := P) w hi, zeroValue, hz, Array.mapM_eq_mapM_toList, run_places w _ _ (placesOf_eq _ _ hpl)]
                rw [hpl', h1]; simp
              · rcases fill_names _ hf hm with h | ⟨p, hp, h⟩
                · have h := nz' m h
                  rw [ls_names hzs, ofV_names] at h; cases h
                · exact evp_names C _ p hp m h
            · cases e
          · cases e
        · rename_i n el hu
          split at e
          · rename_i inf' hi'
            split at e
            · rename_i ls hf
              simp only [Option.some.injEq, Prod.mk.injEq] at e
              obtain ⟨-, rfl⟩ := e
              obtain ⟨cs', h1, h2⟩ := fill_run _ hf (evp_rel C ps.toList) rz'
              refine ⟨.agg cs', ?_, ⟨_, rfl, h2⟩, fun m hm => ?_⟩
              · simp [execOp, Instr.build, run_underlying hu, run_typeInfo (P := P) w hi, zeroValue, hz, sizeOf_run hi', h1]
              · rcases fill_names _ hf hm with h | ⟨p, hp, h⟩
                · have h := nz' m h
                  rw [ls_names hzs, ofV_names] at h; cases h
                · exact evp_names C _ p hp m h
            · cases e
          · cases e
        · cases e
      · cases e
    · cases e
  · cases e
theorem mapLeaf_seg : ∀ (vs : List Value), ∀ l ∈ mapLeaf vs, isSeg l = false
  | [], l, h => by simp [mapLeaf] at h
  | v :: vs, l, h => by
    rcases List.mem_cons.1 h with rfl | h
    · exact ofLeaf_seg v
    · exact mapLeaf_seg vs l h
theorem ofV_seg {v : Value} {ls : List L} (e : (ofV v).ls = some ls) : ∀ l ∈ ls, isSeg l = false := by
  have one : ∀ x : L, (AV.one x).ls = some ls → ∀ l ∈ ls, isSeg l = false := by
    intro x e l hl
    simp only [AV.ls] at e
    split at e
    · rename_i hx
      obtain rfl := Option.some.inj e
      obtain rfl := List.mem_singleton.1 hl
      exact ok_seg hx
    · cases e
  cases v with
  | agg cs =>
    obtain rfl : mapLeaf cs.toList = ls := by simpa [ofV, AV.ls] using e
    exact mapLeaf_seg _
  | _ => exact one _ e
theorem relLs_get {ls : List L} {vs : List Value} (hn : ∀ l ∈ ls, isSeg l = false) (i : Nat) {l : L} (h : RelLs ρ ls vs) (hi : ls[i]? = some l) : ∃ v, vs[i]? = some v ∧ RelL ρ l v := by
  induction ls generalizing vs i with
  | nil => simp at hi
  | cons x ls ih =>
    obtain ⟨v, ws, rfl, h1, h2⟩ := (relLs_cons (hn x (by simp))).1 h
    cases i with
    | zero => simp at hi; subst hi; exact ⟨v, rfl, h1⟩
    | succ i => simpa using ih (fun l hl => hn l (by simp [hl])) i h2 (by simpa using hi)
theorem wids_len {ls : List L} (hn : ∀ l ∈ ls, isSeg l = false) : wids ls = ls.length := by
  induction ls with
  | nil => rfl
  | cons x ls ih =>
    have h1 : wid x = 1 := by
      have := hn x (by simp)
      cases x <;> first | rfl | simp [isSeg] at this
    simp [wids, h1, ih fun l hl => hn l (by simp [hl])]
theorem zfill_rel {zs : List L} {z : Array Value} (hn : ∀ l ∈ zs, isSeg l = false) (hz : RelLs ρ zs z.toList) : ∀ (n k : Nat), RelLs ρ (zfill zs n k) (((List.range' k n).map fun i => z[i % z.size]!))
  | 0, k => by simp [zfill, RelLs]
  | n + 1, k => by
    simp only [zfill, List.range'_succ, List.map_cons]
    have hl : zs.length = z.size := by rw [← wids_len hn, relLs_len hz]; simp
    refine (relLs_cons ?_).2 ⟨_, _, rfl, ?_, zfill_rel hn hz n (k + 1)⟩
    · split
      · rename_i l hl
        rw [nth_eq] at hl
        exact hn l (List.mem_of_getElem? hl)
      · rfl
    · split
      · rename_i l hl'
        rw [nth_eq, hl] at hl'
        obtain ⟨v, hv, hr⟩ := relLs_get hn _ hz hl'
        have hv' : z[k % z.size]? = some v := by simpa using hv
        rw [show z[k % z.size]! = v by simp [getElem!_def, hv']]
        exact hr
      · exact fun h => absurd rfl h
theorem zfill_names {zs : List L} (hz : lnames zs = []) : ∀ (n k : Nat), lnames (zfill zs n k) = []
  | 0, k => rfl
  | n + 1, k => by
    simp only [zfill, lnames, zfill_names hz n (k + 1), List.append_nil]
    split
    · rename_i l hn
      rw [nth_eq] at hn
      have hm := List.mem_of_getElem? hn
      cases h : l.names with
      | nil => rfl
      | cons m ms =>
        have : m ∈ lnames zs := lnames_mem.2 ⟨l, hm, by rw [h]; simp⟩
        rw [hz] at this; cases this
    · rfl
theorem cutF_seg {z n : Nat} {ps : List PL} (hl : ps.length = z * n) : SegV z n (cutF z ps) (ps.map gP) := by
  refine ⟨by simp [hl], fun k hk => ?_⟩
  have hb : z * k + z ≤ z * n := by
    have := Nat.mul_le_mul_left z hk
    rwa [Nat.mul_succ] at this
  have hsome : takeP (dropP ps (z * k)) z = some ((ps.drop (z * k)).take z) := by
    have key : ∀ (qs : List PL) (n : Nat), n ≤ qs.length → takeP qs n = some (qs.take n) := by
      intro qs
      induction qs with
      | nil => intro n hn; obtain rfl : n = 0 := by simpa using hn
               rfl
      | cons q qs ih => intro n hn; cases n with
        | zero => rfl
        | succ n => simp [takeP, ih n (by simpa using hn)]
    rw [dropP_eq]
    exact key _ _ (by simp; omega)
  unfold cutF
  rw [hsome]
  dsimp only
  exact ⟨by simp; omega, fun j hj => by rw [List.getElem?_map, List.getElem?_take, if_pos hj, List.getElem?_drop]⟩
theorem bndK_lt {k n : Nat} (h : k < n) : bndK k (n - 1) = k := by
  unfold bndK
  rw [Nat.ble_eq_true_of_le (by omega)]
theorem cutN_seg {z n : Nat} {ps : List PL} (hl : ps.length = z * n) : SegV z n (cutN n z ps) (ps.map gP) := by
  unfold cutN
  cases h : Nat.beq n 1 with
  | false =>
    obtain ⟨h1, h2⟩ := cutF_seg hl
    exact ⟨h1, fun k hk => by
      have := h2 k hk
      dsimp only
      rw [bndK_lt hk]; exact this⟩
  | true =>
    obtain rfl : n = 1 := by simpa using h
    dsimp only
    have := SegV.cons (z := z) (n := 0) (f := fun _ => ps) (ws := []) ⟨by simp, fun k hk => by omega⟩ (by simpa using hl)
    simpa using this
theorem ok_buildSlice (C : Ctx ρ t h a w) {dst : Option Tmp} {T : TypeId} {len : Nat} {ps : Array (Nat × Operand)} {ty : TypeId} {pos : String} {after : Array Edge} {gu : Option (Nat × Bool)} {c : Cond} {r : Req}
    (e : req P (.buildSlice T len ps) t = some (c, r)) : ReqOK P ρ h a w ⟨dst, .buildSlice T len ps, ty, pos, after, gu⟩ r := by
  simp only [req] at e
  split at e
  · rename_i el hu
    split at e
    · rename_i inf hi
      split at e
      · rename_i z hz
        split at e
        · rename_i zs hzs
          have rz := rel_ls (ofV_rel (ρ := ρ) z) hzs
          split at e
          · rename_i ls hsz hle hf
            split at e
            · rename_i hne
              simp only [Option.some.injEq, Prod.mk.injEq] at e
              obtain ⟨-, rfl⟩ := e
              have hne' : ¬ len * inf.size = 0 := Nat.ne_of_beq_eq_false hne
              have hle' : ¬ len * inf.size > 2 ^ 24 := by have : len * inf.size ≤ 16777216 := by simpa using hle
                                                          omega
              have hrange : RelLs ρ (zfill zs (len * inf.size) 0) ((Array.range (len * inf.size)).map fun i => z.cells[i % z.cells.size]!).toList := by
                have := zfill_rel (ofV_seg hzs) rz (len * inf.size) 0
                rw [← List.range_eq_range'] at this
                simpa using this
              obtain ⟨cs', h1, h2⟩ := fill_run _ hf (evp_rel C ps.toList) hrange
              have hrun : ∀ nv : NewV, nv.val w.heap.size = .slice (some ⟨w.heap.size, 0, none⟩) len len → (execOp a.eval ⟨dst, .buildSlice T len ps, ty, pos, after, gu⟩).run P w = .ok (.value (nv.val w.heap.size)) (w.alloc (.cells cs' el (0, 0))) := by
                intro nv hnv
                rw [hnv]
                simp only [execOp, Instr.buildSlice, Sem.run_bind, run_underlying hu, Result.andThen_ok, sizeOf_run hi]
                rw [if_neg hle']
                simp [zeroValue, run_typeInfo (P := P) w hi, hz, hne', h1, newRow]
              have hold : ReqOK P ρ h a w ⟨dst, .buildSlice T len ps, ty, pos, after, gu⟩ (.new (.cells el ls) (.s len)) := by
                refine ⟨.cells cs' el (0, 0), hrun (.s len) rfl, ⟨_, rfl, rfl, h2⟩, rfl, fun m hm => ?_⟩
                rcases fill_names _ hf hm with h | ⟨p, hp, h⟩
                · rw [zfill_names (by rw [ls_names hzs, ofV_names])] at h; cases h
                · exact evp_names C _ p hp m h
              unfold slcReq
              split
              · rename_i h2z
                split
                · rename_i qs hqs
                  split
                  · rename_i hlq
                    have hlq' : qs.length = inf.size * len := by simpa using hlq
                    have h3 := toPLs_rel hqs h2
                    have hcl : cs'.size = inf.size * len := by
                      have := congrArg List.length h3
                      simpa [hlq'] using this
                    refine ⟨.cells cs' el (0, 0), hrun (.r len) rfl, ⟨_, rfl, rfl, hcl, Nat.le_refl _, ?_, ?_⟩, rfl, by simp [Blk.names]⟩
                    · have : len * inf.size ≤ 16777216 := by simpa using hle
                      have h2z' : 2 ≤ inf.size := Nat.le_of_ble_eq_true h2z
                      have h5 : len * 1 ≤ len * inf.size := Nat.mul_le_mul_left _ (by omega)
                      simp only [NewV.cap, maxLen]; omega
                    · rw [List.take_of_length_le (by rw [Array.length_toList, hcl]; exact Nat.le_refl _), h3]
                      exact cutN_seg hlq'
                  · exact hold
                · exact hold
              · exact hold
            · cases e
          · cases e
        · cases e
      · cases e
    · cases e
  · cases e
theorem ok_makeSlice (C : Ctx ρ t h a w) {dst : Option Tmp} {T : TypeId} {l c' : Operand} {ty : TypeId} {pos : String} {after : Array Edge} {gu : Option (Nat × Bool)} {c : Cond} {r : Req}
    (e : req P (.makeSlice T l c') t = some (c, r)) (hc : c.holds) : ReqOK P ρ h a w ⟨dst, .makeSlice T l c', ty, pos, after, gu⟩ r := by
  simp only [req] at e
  split at e
  · rename_i el hu
    split at e
    · rename_i inf hi
      split at e
      · rename_i z hz
        split at e
        · rename_i zs hzs
          have rz := rel_ls (ofV_rel (ρ := ρ) z) hzs
          split at e
          · rename_i x y hx hy
            split at e
            · rename_i ps hps
              split at e
              · rename_i h1 h2 h3
                simp only [Option.some.injEq, Prod.mk.injEq] at e
                obtain ⟨rfl, rfl⟩ := e
                obtain ⟨rfl, h2'⟩ : x = y ∧ x.toNat < 65536 := hc
                have h1' : ps.length = inf.size := by simpa using h1
                have h4' : inf.bytes ≤ 4096 := by simpa using h2
                have hxv := ev_rel C l
                rw [hx] at hxv
                have hyv := ev_rel C c'
                rw [hy] at hyv
                have ex := hxv (by simp)
                have ey := hyv (by simp)
                simp only [gL, k64, vI] at ex ey
                have ix : x.toInt = (x.toNat : Int) := by rw [BitVec.toInt_eq_toNat_cond, if_pos (by omega)]
                rw [ix] at ex
                rw [ix] at ey
                have hb : inf.bytes * x.toNat ≤ 4096 * 65536 := Nat.mul_le_mul h4' (Nat.le_of_lt h2')
                have hb' : (inf.bytes : Int) * (x.toNat : Int) ≤ 281474976710656 := by
                  have : ((inf.bytes * x.toNat : Nat) : Int) ≤ 281474976710656 := by omega
                  simpa using this
                have hrun := run_make (P := P) w T el inf z hu hi hz .i64 .i64 (x.toNat : Int) (x.toNat : Int) (by omega) (by omega) hb' (by omega)
                simp only [Int.toNat_natCast] at hrun
                have hzc := toPLs_rel hps rz
                have hzs' : z.cells.size = inf.size := by
                  have := congrArg List.length hzc
                  simp at this; omega
                have hpos : 0 < inf.size := Nat.le_of_ble_eq_true h3
                have hmade : (madeCells z.cells (x.toNat * inf.size)).toList = (List.range (inf.size * x.toNat)).map fun i => z.cells[i % inf.size]! := by
                  simp [madeCells, hzs', Nat.mul_comm]
                refine ⟨.cells (madeCells z.cells (x.toNat * inf.size)) el, ?_, ⟨_, rfl, rfl, ?_, Nat.le_refl _, ?_, ?_⟩, rfl, by simp [Blk.names]⟩
                · simp only [execOp, ex, ey, Sem.run_bind, hrun, Result.andThen_ok, NewV.val]
                  simp
                · have := congrArg List.length hmade
                  simpa [NewV.cap] using this
                · simp only [NewV.cap, maxLen]; omega
                · rw [hmade, List.take_of_length_le (by simp)]
                  refine ⟨by simp, fun k hk => ⟨h1', fun j hj => ?_⟩⟩
                  have hlt : inf.size * k + j < inf.size * x.toNat := by have := mul_lt_of (z := inf.size) hk; omega
                  rw [List.getElem?_map, List.getElem?_range hlt, Option.map_some, Nat.mul_add_mod, Nat.mod_eq_of_lt hj]
                  have hz2 : z.cells[j]? = (ps[j]?).map gP := by
                    have := congrArg (fun l => l[j]?) hzc
                    simpa using this
                  have hpj : ps[j]? = some ps[j] := List.getElem?_eq_getElem (by omega)
                  rw [hpj, Option.map_some] at hz2
                  rw [hpj, Option.map_some, getElem!_def, hz2]
              · cases e
            · cases e
          · cases e
        · cases e
      · cases e
    · cases e
  · cases e
end
end Go.Ep
