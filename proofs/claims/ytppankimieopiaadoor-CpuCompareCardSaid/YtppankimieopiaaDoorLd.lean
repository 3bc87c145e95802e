/-
  What each operation asks for is what the model's operation does, in every world that is as the evaluator bears it. Conditions: as typed.
-/
import Derived.Test.YtppankimieopiaaDoorLc
namespace Go.El
open Go.RowKit

structure Ctx (ρ : Nat → Nat) (t : List AV) (h : Nat → Option Blk) (a : Act) (w : World) : Prop where
  tmps : ∀ n, RelA ρ (getT t n) (a.tmps.getD n undef)
  heap : ∀ i b, h i = some b → RelB ρ b w.heap[ρ i]?
  names : ∀ n, ∀ m ∈ (getT t n).names, h m ≠ none
  namesH : ∀ i b, h i = some b → ∀ m ∈ b.names, h m ≠ none

section
variable {P : Program} {ρ : Nat → Nat} {t : List AV} {h : Nat → Option Blk} {a : Act} {w : World}

theorem ev_rel (C : Ctx ρ t h a w) (x : Operand) : RelA ρ (ev t x) (a.eval x) := by
  cases x with
  | tmp n => exact C.tmps n
  | const v => exact ofV_rel v
  | global g => exact fun _ => rfl
  | func f => exact fun _ => rfl
theorem ev_names (C : Ctx ρ t h a w) (x : Operand) : ∀ m ∈ (ev t x).names, h m ≠ none := by
  cases x with
  | tmp n => exact C.names n
  | const v => simp [ev, ofV_names]
  | global g => simp [ev, AV.names, L.names]
  | func f => simp [ev, AV.names, L.names]
theorem ev_eptr (C : Ctx ρ t h a w) {x : Operand} {i off n k : Nat} (e : ev t x = .one (.eptr i off n k)) : a.eval x = .pointer (some ⟨ρ i, off + k, none⟩) ∧ h i ≠ none := by
  have h1 := ev_rel C x
  rw [e] at h1
  refine ⟨h1 (by simp), ?_⟩
  have h2 := ev_names C x
  rw [e] at h2
  exact h2 i (by simp [AV.names, L.names])
theorem evs_rel (C : Ctx ρ t h a w) : ∀ xs : List Operand, RelAs ρ (evs t xs) (xs.map a.eval)
  | [] => trivial
  | x :: xs => ⟨ev_rel C x, evs_rel C xs⟩
theorem evs_names (C : Ctx ρ t h a w) : ∀ xs : List Operand, ∀ v ∈ evs t xs, ∀ m ∈ v.names, h m ≠ none
  | [], v, hv => by simp [evs] at hv
  | x :: xs, v, hv => by
    simp only [evs, List.mem_cons] at hv
    rcases hv with rfl | hv
    · exact ev_names C x
    · exact evs_names C xs v hv
/-- An own address. -/
theorem ev_ptr (C : Ctx ρ t h a w) {x : Operand} {i off : Nat} (e : ev t x = .one (.ptr i off)) : a.eval x = .pointer (some ⟨ρ i, off, none⟩) ∧ h i ≠ none := by
  have h1 := ev_rel C x
  rw [e] at h1
  refine ⟨h1 (by simp), ?_⟩
  have h2 := ev_names C x
  rw [e] at h2
  exact h2 i (by simp [AV.names, L.names])

def NewV.val : NewV → Nat → Value
  | .p, b => .pointer (some ⟨b, 0, none⟩)
  | .s n, b => .slice (some ⟨b, 0, none⟩) n n
/-- What the operation must do. -/
def ReqOK (P : Program) (ρ : Nat → Nat) (h : Nat → Option Blk) (a : Act) (w : World) (o : Oper) : Req → Prop
  | .val v => ∃ u, (execOp a.eval o).run P w = .ok (.value u) w ∧ RelA ρ v u ∧ ∀ m ∈ v.names, h m ≠ none
  | .rd i k => h i ≠ none ∧ ∀ b, h i = some b → ∀ v, k b = some v → ∃ u, (execOp a.eval o).run P w = .ok (.value u) w ∧ RelA ρ v u ∧ ∀ m ∈ v.names, m ∈ b.names
  | .wr i k => h i ≠ none ∧ ∀ b, h i = some b → ∀ b', k b = some b' → ∃ cs, (execOp a.eval o).run P w = .ok .skip (w.setRow (ρ i) cs) ∧
      RelB ρ b' (w.setRow (ρ i) cs).heap[ρ i]? ∧ (b.own = true ∧ b'.own = true) ∧ ∀ m ∈ b'.names, h m ≠ none
  | .new b nv => ∃ ob, (execOp a.eval o).run P w = .ok (.value (nv.val w.heap.size)) (w.alloc ob) ∧ RelB ρ b (some ob) ∧ b.own = true ∧ ∀ m ∈ b.names, h m ≠ none
  | .call f args => ∃ us, RelAs ρ args us ∧ (execOp a.eval o).run P w = (callFunc f us.toArray).run P w ∧ ∀ v ∈ args, ∀ m ∈ v.names, h m ≠ none
  | .glob T g off => ∀ u, (loadVar T ⟨g, off, none⟩).run P w = .ok u w → (execOp a.eval o).run P w = .ok (.value u) w
  | .look T ok _ b key => ∃ u, RelA ρ key u ∧ ∀ r, (Instr.lookup T (.map (some b)) u ok).run P w = .ok r w → (execOp a.eval o).run P w = .ok (.value r) w
  | .pick b x y => ∃ u, (execOp a.eval o).run P w = .ok (.value u) w ∧ RelA ρ (if b then x else y) u ∧ ∀ m ∈ (if b then x else y).names, h m ≠ none

theorem addr_add (b o n : Nat) : (⟨b, o, none⟩ : Addr).add n = ⟨b, o + n, none⟩ := by unfold Addr.add; split <;> simp_all
theorem add_addr (b o n : Nat) : ({ block := b, off := o, spot := none } : Addr).add n = { block := b, off := o + n, spot := none } := addr_add b o n

theorem isAgg_run {T : TypeId} {b : Bool} (hb : isAggT P T = some b) : (isAgg T).run P w = .ok b w := by
  unfold isAggT at hb
  cases hu : P.underlying T with
  | none => rw [hu] at hb; cases hb
  | some d => rw [hu] at hb; cases d <;> simp_all [isAgg, run_underlying hu]
theorem sizeOf_run {T : TypeId} {i : TypeInfo} (hi : P.info? T = some i) : (sizeOf T).run P w = .ok i.size w := by
  simp [sizeOf, run_typeInfo (P := P) w hi]
theorem cell_of_rel {i : Nat} {T : TypeId} {cs : Array Value} {fr : Nat × Nat} (hc : w.heap[i]? = some (.cells cs T fr)) (j : Nat) : w.cell? ⟨i, j, none⟩ = cs[j]? := by
  simp [World.cell?, hc]
/-- What stands in a row of cells, from a place on. -/
theorem load_part {i : Nat} {T' : TypeId} {cs : Array Value} {fr : Nat × Nat} (hc : w.heap[i]? = some (.cells cs T' fr)) {T : TypeId} {inf : TypeInfo} (hi : P.info? T = some inf)
    (hA : isAggT P T = some true) (off : Nat) (hl : inf.size ≤ cs.toList.length - off) : (loadVar T ⟨i, off, none⟩).run P w = .ok (.agg ((cs.toList.drop off).take inf.size).toArray) w := by
  have hlen : ((cs.toList.drop off).take inf.size).length = inf.size := by simp at hl ⊢; omega
  have hl' := run_loadCells_list (P := P) w ⟨i, off, none⟩ ((cs.toList.drop off).take inf.size) (fun j v hv => by
    rw [addr_add, cell_of_rel hc]
    rw [List.getElem?_take] at hv
    split at hv
    · rw [List.getElem?_drop] at hv; simpa using hv
    · cases hv)
  rw [hlen] at hl'
  simp [loadVar, isAgg_run hA, sizeOf_run hi, hl']
theorem load_one {i : Nat} {T' : TypeId} {cs : Array Value} {fr : Nat × Nat} (hc : w.heap[i]? = some (.cells cs T' fr)) {T : TypeId}
    (hA : isAggT P T = some false) (off : Nat) {v : Value} (hv : (cs.toList.drop off).head? = some v) : (loadVar T ⟨i, off, none⟩).run P w = .ok v w := by
  have : w.cell? ⟨i, off, none⟩ = some v := by
    rw [cell_of_rel hc]
    rw [List.head?_drop] at hv; simpa using hv
  simp [loadVar, isAgg_run hA, this]

theorem ok_load (C : Ctx ρ t h a w) {dst : Option Tmp} {T : TypeId} {x : Operand} {ty : TypeId} {pos : String} {after : Array Edge} {gu : Option (Nat × Bool)} {c : Cond} {r : Req}
    (e : req P (.load T x) t = some (c, r)) (hcond : c.holds) : ReqOK P ρ h a w ⟨dst, .load T x, ty, pos, after, gu⟩ r := by
  simp only [req] at e
  split at e
  · rename_i i off hx
    obtain ⟨hev, hin⟩ := ev_ptr C hx
    split at e
    · rename_i inf hi
      split at e
      · rename_i hA
        simp only [Option.some.injEq, Prod.mk.injEq] at e
        obtain ⟨-, rfl⟩ := e
        refine ⟨hin, fun b hb v hv => ?_⟩
        obtain ⟨T', cs, fr, hc, hr⟩ := relB_get (C.heap i _ hb)
        dsimp only at hv
        split at hv
        · rename_i r ht
          obtain rfl : AV.agg r = v := by simpa using hv
          have ⟨h1, h2⟩ := relLs_take _ ht (relLs_drop off hr)
          refine ⟨_, ?_, ⟨_, rfl, by simpa using h1⟩, fun m hm => by rw [names_rdL]; exact sub_names ht hm⟩
          simp [execOp, Instr.loadAt, hev, Instr.sureAddr, load_part hc hi hA off (by simpa using h2)]
        · cases hv
      · rename_i hA
        simp only [Option.some.injEq, Prod.mk.injEq] at e
        obtain ⟨-, rfl⟩ := e
        refine ⟨hin, fun b hb v hv => ?_⟩
        obtain ⟨T', cs, fr, hc, hr⟩ := relB_get (C.heap i _ hb)
        dsimp only at hv
        split at hv
        · rename_i l ls' ht
          obtain rfl : AV.one l = v := by simpa using hv
          obtain ⟨v, hv, hl⟩ := relLs_head (relLs_drop off hr) ht
          refine ⟨v, ?_, hl, fun m hm => by rw [names_rdL]; exact head_names ht hm⟩
          simp [execOp, Instr.loadAt, hev, Instr.sureAddr, load_one hc hA off hv]
        · cases hv
      · cases e
    · cases e
  · rename_i p hx
    have h1 := ev_rel C x
    rw [hx] at h1
    have hev := h1 (by simp)
    simp only [gL] at hev
    split at e
    · rename_i hs
      simp only [Option.some.injEq, Prod.mk.injEq] at e
      obtain ⟨-, rfl⟩ := e
      intro u hu
      have hp : (⟨p.block, p.off, none⟩ : Addr) = p := by rw [← hs]
      rw [hp] at hu
      simp [execOp, Instr.loadAt, hev, Instr.sureAddr, hu]
    · cases e
  · rename_i i off n k hx
    obtain ⟨hev, hin⟩ := ev_eptr C hx
    split at e
    · rename_i inf hi
      split at e
      · rename_i hA
        simp only [Option.some.injEq, Prod.mk.injEq] at e
        obtain ⟨rfl, rfl⟩ := e
        have hk : k < n := hcond
        refine ⟨hin, fun b hb v hv => ?_⟩
        obtain ⟨T', cs, fr, hc, hr⟩ := relB_get (C.heap i _ hb)
        dsimp only at hv
        split at hv
        · rename_i r ht
          split at hv
          · rename_i l hl
            obtain rfl : AV.one l = v := by simpa using hv
            have ⟨h1, h2⟩ := relLs_take _ ht (relLs_drop off hr)
            have hlen := relLs_len h1
            obtain ⟨h3, h4⟩ := selL_get hl h1 (by simp at hlen h2; omega)
            refine ⟨gL ρ l, ?_, fun _ => rfl, by simp [AV.names, h4]⟩
            have hv' : (cs.toList.drop (off + k)).head? = some (gL ρ l) := by
              rw [List.getElem?_take, if_pos hk, List.getElem?_drop] at h3
              rw [List.head?_drop]; exact h3
            simp [execOp, Instr.loadAt, hev, Instr.sureAddr, load_one hc hA (off + k) hv']
          · cases hv
        · cases hv
      · cases e
    · cases e
  · cases e
theorem ok_lookup (C : Ctx ρ t h a w) {dst : Option Tmp} {T : TypeId} {x i : Operand} {ok : Bool} {ty : TypeId} {pos : String} {after : Array Edge} {gu : Option (Nat × Bool)} {c : Cond} {r : Req}
    (e : req P (.lookup T x i ok) t = some (c, r)) : ReqOK P ρ h a w ⟨dst, .lookup T x i ok, ty, pos, after, gu⟩ r := by
  simp only [req] at e
  split at e
  · rename_i g b hx
    have h1 := ev_rel C x
    rw [hx] at h1
    have hev := h1 (by simp)
    simp only [gL] at hev
    simp only [Option.some.injEq, Prod.mk.injEq] at e
    obtain ⟨-, rfl⟩ := e
    refine ⟨a.eval i, ev_rel C i, fun r hr => ?_⟩
    simp [execOp, hev, hr]
  · cases e

theorem ok_move (C : Ctx ρ t h a w) {dst : Option Tmp} {x : Operand} {ty : TypeId} {pos : String} {after : Array Edge} {gu : Option (Nat × Bool)} : ReqOK P ρ h a w ⟨dst, .move x, ty, pos, after, gu⟩ (.val (ev t x)) :=
  ⟨a.eval x, by simp [execOp], ev_rel C x, ev_names C x⟩
theorem ok_assign (C : Ctx ρ t h a w) {dst : Option Tmp} {x : Operand} {ty : TypeId} {pos : String} {after : Array Edge} {gu : Option (Nat × Bool)} : ReqOK P ρ h a w ⟨dst, .assign x, ty, pos, after, gu⟩ (.val (ev t x)) :=
  ⟨a.eval x, by simp [execOp], ev_rel C x, ev_names C x⟩
theorem ev_bool (C : Ctx ρ t h a w) {x : Operand} {b : Bool} (e : ev t x = .one (.bool b)) : a.eval x = .bool b := by
  have h1 := ev_rel C x
  rw [e] at h1
  exact h1 (by simp)
theorem ok_pick (C : Ctx ρ t h a w) {dst : Option Tmp} {c x y : Operand} {ty : TypeId} {pos : String} {after : Array Edge} {gu : Option (Nat × Bool)} {b : Bool} (e : ev t c = .one (.bool b)) :
    ReqOK P ρ h a w ⟨dst, .pick c x y, ty, pos, after, gu⟩ (.pick b (ev t x) (ev t y)) := by
  refine ⟨if b then a.eval x else a.eval y, ?_, ?_, ?_⟩
  · simp [execOp, ev_bool C e, asBool]
  · cases b
    · exact ev_rel C y
    · exact ev_rel C x
  · cases b
    · exact ev_names C y
    · exact ev_names C x
theorem ok_box (C : Ctx ρ t h a w) {dst : Option Tmp} {T : TypeId} {x : Operand} {ty : TypeId} {pos : String} {after : Array Edge} {gu : Option (Nat × Bool)} {ls : List L} (e : (ev t x).ls = some ls) :
    ReqOK P ρ h a w ⟨dst, .box T x, ty, pos, after, gu⟩ (.new (.cells T ls) .p) := by
  refine ⟨.cells (a.eval x).cells T, ?_, ⟨_, rfl, rel_ls (ev_rel C x) e⟩, rfl, ?_⟩
  · simp [execOp, Instr.box, newVar, newRow, NewV.val]
  · simp only [Blk.names, ls_names e]; exact ev_names C x
theorem ok_alloc {dst : Option Tmp} {T : TypeId} {ty : TypeId} {pos : String} {after : Array Edge} {gu : Option (Nat × Bool)} {i : TypeInfo} {z : Value} {ls : List L}
    (hi : P.info? T = some i) (hz : i.zero = some z) (e : (ofV z).ls = some ls) : ReqOK P ρ h a w ⟨dst, .alloc T, ty, pos, after, gu⟩ (.new (.cells T ls) .p) := by
  refine ⟨.cells z.cells T, ?_, ⟨_, rfl, rel_ls (ofV_rel z) e⟩, rfl, ?_⟩
  · simp [execOp, Instr.alloc, zeroValue, run_typeInfo (P := P) w hi, hz, newVar, newRow, NewV.val]
  · simp [Blk.names, ls_names e, ofV_names]
theorem caps_rel (C : Ctx ρ t h a w) : ∀ {xs : List Operand} {r : List (Nat × Nat)}, capsOf t xs = some r → xs.map a.eval = capVals ρ r ∧ ∀ m ∈ capN r, h m ≠ none
  | [], r, e => by simp [capsOf] at e; subst e; exact ⟨rfl, by simp [capN]⟩
  | x :: xs, r, e => by
    simp only [capsOf] at e
    split at e
    · rename_i i o hx
      split at e
      · rename_i r' hr
        obtain rfl : (i, o) :: r' = r := by simpa using e
        obtain ⟨h1, h2⟩ := ev_ptr C hx
        obtain ⟨h3, h4⟩ := caps_rel C hr
        refine ⟨by simp [capVals, h1, h3], fun m hm => ?_⟩
        simp only [capN, List.mem_cons] at hm
        rcases hm with rfl | hm
        · exact h2
        · exact h4 m hm
      · cases e
    · cases e
theorem ok_makeFunc (C : Ctx ρ t h a w) {dst : Option Tmp} {fn : Fn} {fst cap : Array Operand} {ty : TypeId} {pos : String} {after : Array Edge} {gu : Option (Nat × Bool)} {c : Cond} {r : Req}
    (e : req P (.makeFunc fn fst cap) t = some (c, r)) : ReqOK P ρ h a w ⟨dst, .makeFunc fn fst cap, ty, pos, after, gu⟩ r := by
  simp only [req] at e
  split at e
  · rename_i f hf
    split at e
    · rename_i r' hr
      simp only [Option.some.injEq, Prod.mk.injEq] at e
      obtain ⟨-, rfl⟩ := e
      obtain ⟨h1, h2⟩ := caps_rel C hr
      obtain rfl : fst = #[] := by cases fst; simp_all
      refine ⟨_, ?_, fun _ => rfl, by simpa [AV.names, L.names] using h2⟩
      simp only [execOp, Instr.makeFunc, gL]
      have : cap.map a.eval = (capVals ρ r').toArray := by rw [← h1, ← Array.toList_map, Array.toArray_toList]
      simp [this]
    · cases e
  · cases e
theorem ok_nilCheck (C : Ctx ρ t h a w) {dst : Option Tmp} {x : Operand} {ty : TypeId} {pos : String} {after : Array Edge} {gu : Option (Nat × Bool)} {i off : Nat} (e : ev t x = .one (.ptr i off)) :
    ReqOK P ρ h a w ⟨dst, .nilCheck x, ty, pos, after, gu⟩ (.val (.one (.ptr i off))) := by
  obtain ⟨hev, hin⟩ := ev_ptr C e
  exact ⟨_, by simp only [execOp, hev]; rfl, fun _ => rfl, by simpa [AV.names, L.names] using hin⟩
theorem nth_eq {α : Type _} : ∀ (l : List α) (n : Nat), nth l n = l[n]?
  | [], n => by simp [nth]
  | x :: l, 0 => by simp [nth]
  | x :: l, n + 1 => by simp [nth, nth_eq l n]
theorem ok_fieldAddr (C : Ctx ρ t h a w) {dst : Option Tmp} {T : TypeId} {x : Operand} {f : Nat} {ty : TypeId} {pos : String} {after : Array Edge} {gu : Option (Nat × Bool)} {c : Cond} {r : Req}
    (e : req P (.fieldAddr T x f) t = some (c, r)) : ReqOK P ρ h a w ⟨dst, .fieldAddr T x f, ty, pos, after, gu⟩ r := by
  simp only [req] at e
  split at e
  · rename_i i off hx
    obtain ⟨hev, hin⟩ := ev_ptr C hx
    split at e
    · rename_i fs hu
      split at e
      · rename_i fd hf
        rw [nth_eq] at hf
        split at e
        · rename_i inf hi
          split at e
          · rename_i hz
            simp only [Option.some.injEq, Prod.mk.injEq] at e
            obtain ⟨-, rfl⟩ := e
            have hz' : ¬ inf.size = 0 := Nat.ne_of_beq_eq_false hz
            refine ⟨_, ?_, fun _ => rfl, by simpa [AV.names, L.names] using hin⟩
            have hf' : fs[f]? = some fd := by simpa using hf
            simp [execOp, Instr.fieldAt, run_underlying hu, hf', hev, Instr.sureAddr, fieldPlace, sizeOf_run hi, hz', addr_add, gL]
          · cases e
        · cases e
      · cases e
    · cases e
  · cases e
theorem part_run {cs : Array Value} {ls : List L} (hr : RelLs ρ ls cs.toList) {T : TypeId} {inf : TypeInfo} (hi : P.info? T = some inf) (hA : isAggT P T = some true) (off : Nat) {r : List L}
    (ht : takeL (dropL ls off) inf.size = some r) : ∃ u, (part T cs off).run P w = .ok u w ∧ RelA ρ (.agg r) u := by
  have ⟨h1, h2⟩ := relLs_take _ ht (relLs_drop off hr)
  refine ⟨.agg (cs.extract off (off + inf.size)), by simp [part, isAgg_run hA, sizeOf_run hi], _, rfl, ?_⟩
  rw [Array.toList_extract, List.extract_eq_take_drop]
  rw [show off + inf.size - off = inf.size by omega]
  exact h1
theorem part_one {cs : Array Value} {ls : List L} (hr : RelLs ρ ls cs.toList) {T : TypeId} (hA : isAggT P T = some false) (off : Nat) {l : L} {r : List L}
    (ht : dropL ls off = l :: r) : ∃ u, (part T cs off).run P w = .ok u w ∧ RelL ρ l u := by
  obtain ⟨v, hv, hl⟩ := relLs_head (relLs_drop off hr) ht
  refine ⟨v, ?_, hl⟩
  have : cs[off]? = some v := by rw [List.head?_drop] at hv; simpa using hv
  simp [part, isAgg_run hA, this]
theorem ok_field (C : Ctx ρ t h a w) {dst : Option Tmp} {T : TypeId} {x : Operand} {f : Nat} {ty : TypeId} {pos : String} {after : Array Edge} {gu : Option (Nat × Bool)} {c : Cond} {r : Req}
    (e : req P (.field T x f) t = some (c, r)) : ReqOK P ρ h a w ⟨dst, .field T x f, ty, pos, after, gu⟩ r := by
  simp only [req] at e
  split at e
  · rename_i ls hx
    have h1 := ev_rel C x
    have h2 := ev_names C x
    rw [hx] at h1 h2
    obtain ⟨cs, hev, hr⟩ := h1
    split at e
    · rename_i fs hu
      split at e
      · rename_i fd hf
        rw [nth_eq] at hf
        have hf' : fs[f]? = some fd := by simpa using hf
        split at e
        · rename_i inf hi
          split at e
          · rename_i hA
            split at e
            · rename_i r' ht
              simp only [Option.some.injEq, Prod.mk.injEq] at e
              obtain ⟨-, rfl⟩ := e
              obtain ⟨u, hu', hr'⟩ := part_run (P := P) (w := w) hr hi hA _ ht
              exact ⟨u, by simp [execOp, Instr.field, run_underlying hu, hf', hev, asAgg, hu'], hr', fun m hm => h2 m (sub_names ht hm)⟩
            · cases e
          · rename_i hA
            split at e
            · rename_i l r' ht
              simp only [Option.some.injEq, Prod.mk.injEq] at e
              obtain ⟨-, rfl⟩ := e
              obtain ⟨u, hu', hr'⟩ := part_one (P := P) (w := w) hr hA _ ht
              exact ⟨u, by simp [execOp, Instr.field, run_underlying hu, hf', hev, asAgg, hu'], hr', fun m hm => h2 m (head_names ht hm)⟩
            · cases e
          · cases e
        · cases e
      · cases e
    · cases e
  · cases e
theorem constIx_eval {x : Operand} {n : Nat} (hx : constIx x = some n) : a.eval x = .int .i64 n := by
  cases x with
  | const v =>
    cases v with
    | int k m =>
      cases k <;> cases m <;> simp [constIx] at hx
      subst hx; rfl
    | _ => simp [constIx] at hx
  | _ => simp [constIx] at hx
theorem andC_holds {c : Cond} {p : Prop} (h : (andC c p).holds) : c.holds ∧ p := by
  cases c with
  | t => exact ⟨trivial, h⟩
  | p q => exact h
theorem ix_run {y : L} {c : Cond} {n : Nat} (e : ixL y = some (c, n)) (hc : c.holds) {v : Value} (hv : RelL ρ y v) : ∃ k m, v = .int k m ∧ 0 ≤ m ∧ m.toNat = n := by
  cases y with
  | b64 s x =>
    obtain rfl := hv (by simp)
    cases s <;> simp only [ixL, Option.some.injEq, Prod.mk.injEq] at e <;> obtain ⟨rfl, rfl⟩ := e
    · exact ⟨_, _, rfl, by simp [vI], by simp [vI]⟩
    · exact ⟨_, _, rfl, hc, n_toNat x hc⟩
  | b32 s x =>
    obtain rfl := hv (by simp)
    cases s <;> simp only [ixL, Option.some.injEq, Prod.mk.injEq] at e <;> obtain ⟨rfl, rfl⟩ := e
    · exact ⟨_, _, rfl, by simp [vI], by simp [vI]⟩
    · exact ⟨_, _, rfl, hc, n_toNat x hc⟩
  | b16 s x =>
    obtain rfl := hv (by simp)
    cases s <;> simp only [ixL, Option.some.injEq, Prod.mk.injEq] at e <;> obtain ⟨rfl, rfl⟩ := e
    · exact ⟨_, _, rfl, by simp [vI], by simp [vI]⟩
    · exact ⟨_, _, rfl, hc, n_toNat x hc⟩
  | b8 s x =>
    obtain rfl := hv (by simp)
    cases s <;> simp only [ixL, Option.some.injEq, Prod.mk.injEq] at e <;> obtain ⟨rfl, rfl⟩ := e
    · exact ⟨_, _, rfl, by simp [vI], by simp [vI]⟩
    · exact ⟨_, _, rfl, hc, n_toNat x hc⟩
  | _ => simp [ixL] at e
theorem ev_slc (C : Ctx ρ t h a w) {x : Operand} {i off n c : Nat} (e : ev t x = .one (.slc i off n c)) : a.eval x = .slice (some ⟨ρ i, off, none⟩) n c ∧ h i ≠ none := by
  have h1 := ev_rel C x
  rw [e] at h1
  refine ⟨h1 (by simp), ?_⟩
  have h2 := ev_names C x
  rw [e] at h2
  exact h2 i (by simp [AV.names, L.names])
theorem ok_indexAddr (C : Ctx ρ t h a w) {dst : Option Tmp} {T : TypeId} {x i : Operand} {ty : TypeId} {pos : String} {after : Array Edge} {gu : Option (Nat × Bool)} {c : Cond} {r : Req}
    (e : req P (.indexAddr T x i) t = some (c, r)) (hc : c.holds) : ReqOK P ρ h a w ⟨dst, .indexAddr T x i, ty, pos, after, gu⟩ r := by
  simp only [req] at e
  split at e
  · rename_i b off hx
    obtain ⟨hev, hin⟩ := ev_ptr C hx
    split at e
    · rename_i n el hu
      split at e
      · rename_i inf hi
        split at e
        · rename_i k hk
          split at e
          · rename_i hlt
            simp only [Option.some.injEq, Prod.mk.injEq] at e
            obtain ⟨-, rfl⟩ := e
            have hlt' : k < n := by simpa using hlt
            refine ⟨_, ?_, fun _ => rfl, by simpa [AV.names, L.names] using hin⟩
            have hk' := constIx_eval (a := a) hk
            simp [execOp, Instr.indexAt, hk', asIntOf, run_underlying hu, hev, Instr.sureAddr, sizeOf_run hi, hlt', addr_add, gL]
          · cases e
        · split at e
          · rename_i l hl
            split at e
            · rename_i c' k hk
              split at e
              · rename_i h16 hs1
                simp only [Option.some.injEq, Prod.mk.injEq] at e
                obtain ⟨rfl, rfl⟩ := e
                obtain ⟨h1, hlt⟩ := andC_holds hc
                have hrl := ev_rel C i
                rw [hl] at hrl
                obtain ⟨ki, m, hv, h0, rfl⟩ := ix_run hk h1 hrl
                have hlt' : m < (n : Int) := by omega
                have hsz : inf.size = 1 := by simpa using hs1
                refine ⟨_, ?_, fun _ => rfl, by simpa [AV.names, L.names] using hin⟩
                simp [execOp, Instr.indexAt, hv, asIntOf, run_underlying hu, hev, Instr.sureAddr, sizeOf_run hi, h0, hlt', addr_add, gL, hsz]
              · simp only [Option.some.injEq, Prod.mk.injEq] at e
                obtain ⟨rfl, rfl⟩ := e
                obtain ⟨h1, hlt⟩ := andC_holds hc
                have hrl := ev_rel C i
                rw [hl] at hrl
                obtain ⟨ki, m, hv, h0, rfl⟩ := ix_run hk h1 hrl
                have hlt' : m < (n : Int) := by omega
                refine ⟨_, ?_, fun _ => rfl, by simpa [AV.names, L.names] using hin⟩
                simp [execOp, Instr.indexAt, hv, asIntOf, run_underlying hu, hev, Instr.sureAddr, sizeOf_run hi, h0, hlt', addr_add, gL]
            · cases e
          · cases e
      · cases e
    · cases e
  · rename_i b off len cp hx
    obtain ⟨hev, hin⟩ := ev_slc C hx
    split at e
    · rename_i el hu
      split at e
      · rename_i inf hi
        split at e
        · rename_i l hl
          split at e
          · rename_i c' k hk
            simp only [Option.some.injEq, Prod.mk.injEq] at e
            obtain ⟨rfl, rfl⟩ := e
            obtain ⟨h1, hlt⟩ := andC_holds hc
            have hrl := ev_rel C i
            rw [hl] at hrl
            obtain ⟨ki, m, hv, h0, rfl⟩ := ix_run hk h1 hrl
            have hlt' : m < (len : Int) := by omega
            refine ⟨_, ?_, fun _ => rfl, by simpa [AV.names, L.names] using hin⟩
            simp [execOp, Instr.indexAt, hv, asIntOf, run_underlying hu, hev, sizeOf_run hi, h0, hlt', addr_add, gL]
          · cases e
        · cases e
      · cases e
    · cases e
  · rename_i p hx
    have h1 := ev_rel C x
    rw [hx] at h1
    have hev := h1 (by simp)
    simp only [gL] at hev
    split at e
    · rename_i hsp
      have hp : p = ⟨p.block, p.off, none⟩ := by rw [← hsp]
      split at e
      · rename_i n el hu
        split at e
        · rename_i inf hi
          split at e
          · rename_i l hl
            split at e
            · rename_i c' k hk
              simp only [Option.some.injEq, Prod.mk.injEq] at e
              obtain ⟨rfl, rfl⟩ := e
              obtain ⟨h1, hlt⟩ := andC_holds hc
              have hrl := ev_rel C i
              rw [hl] at hrl
              obtain ⟨ki, m, hv, h0, rfl⟩ := ix_run hk h1 hrl
              have hlt' : m < (n : Int) := by omega
              refine ⟨_, ?_, fun _ => rfl, by simp [AV.names, L.names]⟩
              rw [hp] at hev
              simp [execOp, Instr.indexAt, hv, asIntOf, run_underlying hu, hev, Instr.sureAddr, sizeOf_run hi, h0, hlt', addr_add, gL]
            · cases e
          · cases e
        · cases e
      · cases e
    · cases e
  · cases e
theorem nthB_eq : ∀ (xs : List UInt8) (n : Nat), nthB xs n = (xs[n]?.getD 0).toBitVec
  | [], n => by simp [nthB]
  | x :: xs, 0 => by simp [nthB]
  | x :: xs, n + 1 => by simp [nthB, nthB_eq xs n]
theorem ixO_run (C : Ctx ρ t h a w) {i : Operand} {c : Cond} {k : Nat} (e : (match constIx i with | some k => some (Cond.t, k) | none => match ev t i with | .one l => ixL l | _ => none) = some (c, k)) (hc : c.holds) :
    ∃ ki m, a.eval i = .int ki m ∧ 0 ≤ m ∧ m.toNat = k := by
  split at e
  · rename_i k' hk'
    simp only [Option.some.injEq, Prod.mk.injEq] at e
    obtain ⟨-, rfl⟩ := e
    exact ⟨_, _, constIx_eval (a := a) hk', by omega, by simp⟩
  · split at e
    · rename_i l hl
      have hrl := ev_rel C i
      rw [hl] at hrl
      exact ix_run e hc hrl
    · cases e
theorem ok_index (C : Ctx ρ t h a w) {dst : Option Tmp} {T : TypeId} {x i : Operand} {ty : TypeId} {pos : String} {after : Array Edge} {gu : Option (Nat × Bool)} {c : Cond} {r : Req}
    (e : req P (.index T x i) t = some (c, r)) (hc : c.holds) : ReqOK P ρ h a w ⟨dst, .index T x i, ty, pos, after, gu⟩ r := by
  simp only [req] at e
  split at e
  · rename_i ls hx
    have h1 := ev_rel C x
    have h2 := ev_names C x
    rw [hx] at h1 h2
    obtain ⟨cs, hev, hr⟩ := h1
    split at e
    · rename_i n el hu
      split at e
      · rename_i inf c' k hi hk
        -- the index
        have key : c'.holds → ∃ ki m, a.eval i = .int ki m ∧ 0 ≤ m ∧ m < (n : Int) ∧ m.toNat = k := by
          intro hc'
          split at hk
          · rename_i k' hk'
            split at hk
            · rename_i hlt
              simp only [Option.some.injEq, Prod.mk.injEq] at hk
              obtain ⟨-, rfl⟩ := hk
              have hlt' : k' < n := by simpa using hlt
              exact ⟨_, _, constIx_eval (a := a) hk', by omega, by omega, by simp⟩
            · cases hk
          · split at hk
            · rename_i l hl
              split at hk
              · rename_i c2 k2 hk2
                simp only [Option.some.injEq, Prod.mk.injEq] at hk
                obtain ⟨rfl, rfl⟩ := hk
                obtain ⟨h3, hlt⟩ := andC_holds hc'
                have hrl := ev_rel C i
                rw [hl] at hrl
                obtain ⟨ki, m, hv, h0, hm⟩ := ix_run hk2 h3 hrl
                exact ⟨ki, m, hv, h0, by omega, hm⟩
              · cases hk
            · cases hk
        split at e
        · rename_i hA
          split at e
          · rename_i r' ht
            simp only [Option.some.injEq, Prod.mk.injEq] at e
            obtain ⟨rfl, rfl⟩ := e
            obtain ⟨ki, m, hv, h0, hlt, rfl⟩ := key hc
            obtain ⟨u, hu', hr'⟩ := part_run (P := P) (w := w) hr hi hA _ ht
            exact ⟨u, by simp [execOp, Instr.index, hv, asIntOf, run_underlying hu, hev, sizeOf_run hi, h0, hlt, hu'], hr', fun m hm => h2 m (sub_names ht hm)⟩
          · cases e
        · rename_i hA
          split at e
          · rename_i l r' ht
            simp only [Option.some.injEq, Prod.mk.injEq] at e
            obtain ⟨rfl, rfl⟩ := e
            obtain ⟨ki, m, hv, h0, hlt, rfl⟩ := key hc
            obtain ⟨u, hu', hr'⟩ := part_one (P := P) (w := w) hr hA _ ht
            exact ⟨u, by simp [execOp, Instr.index, hv, asIntOf, run_underlying hu, hev, sizeOf_run hi, h0, hlt, hu'], hr', fun m hm => h2 m (head_names ht hm)⟩
          · cases e
        · cases e
      · cases e
    · cases e
  · rename_i s hx
    have h1 := ev_rel C x
    rw [hx] at h1
    have hev := h1 (by simp)
    simp only [gL] at hev
    split at e
    · rename_i hu
      split at e
      · rename_i c' k hk
        simp only [Option.some.injEq, Prod.mk.injEq] at e
        obtain ⟨rfl, rfl⟩ := e
        obtain ⟨hc', hlt⟩ := andC_holds hc
        obtain ⟨ki, m, hv, h0, rfl⟩ := ixO_run C hk hc'
        have hb : s[m.toNat]? = some s.data[m.toNat] := by
          rw [getElem?_def, dif_pos hlt]; rfl
        have hd : s.data[m.toNat]? = some s.data[m.toNat] := by simp
        refine ⟨.int .u8 (s.data[m.toNat].toNat : Int), ?_, fun _ => ?_, by simp [AV.names, L.names]⟩
        · simp [execOp, Instr.index, hv, asIntOf, run_underlying hu, hev, h0, hb]
        · simp only [gL, byteAt, nthB_eq]; rw [← Array.getElem?_toList] at hd; rw [hd]; rfl
      · cases e
    · cases e
  · cases e
theorem dropU_eq : ∀ (xs : List UInt8) (n : Nat), dropU xs n = xs.drop n
  | xs, 0 => by cases xs <;> rfl
  | [], n + 1 => by simp [dropU]
  | _ :: xs, n + 1 => by simp [dropU, dropU_eq xs n]
theorem takeU_eq : ∀ (xs : List UInt8) (n : Nat), takeU xs n = xs.take n
  | xs, 0 => by cases xs <;> rfl
  | [], n + 1 => by simp [takeU]
  | _ :: xs, n + 1 => by simp [takeU, takeU_eq xs n]
theorem exB_eq (s : ByteArray) (l h : Nat) : s.extract l h = exB s l h := by
  apply ByteArray.ext
  rw [ByteArray.data_extract]
  apply Array.ext'
  rw [Array.toList_extract, List.extract_eq_take_drop]
  simp only [exB, takeU_eq, dropU_eq]
theorem boundK_run (C : Ctx ρ t h a w) {x : Option Operand} {d k : Nat} {c : Cond} (e : boundK t x d = some (c, k)) (hc : c.holds) :
    (x.map a.eval = none ∧ k = d) ∨ ∃ ki m, x.map a.eval = some (.int ki m) ∧ 0 ≤ m ∧ m.toNat = k := by
  unfold boundK at e
  split at e
  · simp only [Option.some.injEq, Prod.mk.injEq] at e
    obtain ⟨-, rfl⟩ := e
    exact .inl ⟨rfl, rfl⟩
  · rename_i x
    obtain ⟨ki, m, hv, h0, hm⟩ := ixO_run C (i := x) (c := c) (k := k) e hc
    exact .inr ⟨ki, m, by simp [hv], h0, hm⟩
theorem bothC_holds {c d : Cond} (h : (bothC c d).holds) : c.holds ∧ d.holds := by
  cases c with
  | t => exact ⟨trivial, h⟩
  | p p => cases d with
    | t => exact ⟨h, trivial⟩
    | p q => exact h
theorem bounds_run (b : Bool) (len cap : Nat) {lo hi : Option Value} {l u : Nat} (hlo : (lo = none ∧ l = 0) ∨ ∃ k m, lo = some (.int k m) ∧ 0 ≤ m ∧ m.toNat = l)
    (hhi : (hi = none ∧ u = len) ∨ ∃ k m, hi = some (.int k m) ∧ 0 ≤ m ∧ m.toNat = u) (h1 : l ≤ u) (h2 : u ≤ cap) : (Instr.sliceBounds b len cap lo hi none).run P w = .ok (l, u, cap) w := by
  have hb : ∀ (k : IntKind) (m : Int) (y : Nat) (code : BoundsCode), 0 ≤ m → m.toNat ≤ y → (Instr.sliceBound (.int k m) y code).run P w = .ok m.toNat w := by
    intro k m y code h0 h1
    simp [Instr.sliceBound, asIntOf, h0, show m ≤ (y : Int) by omega]
  rcases hlo with ⟨rfl, rfl⟩ | ⟨k, m, rfl, h3, rfl⟩ <;> rcases hhi with ⟨rfl, rfl⟩ | ⟨k', m', rfl, h4, rfl⟩
  · simp [Instr.sliceBounds]
  · simp [Instr.sliceBounds, hb _ _ _ _ h4 h2]
  · simp [Instr.sliceBounds, hb _ _ _ _ h3 h1]
  · simp [Instr.sliceBounds, hb _ _ _ _ h4 h2, hb _ _ _ _ h3 h1]
theorem ok_slice (C : Ctx ρ t h a w) {dst : Option Tmp} {T : TypeId} {x : Operand} {lo hi mx : Option Operand} {ty : TypeId} {pos : String} {after : Array Edge} {gu : Option (Nat × Bool)} {c : Cond} {r : Req}
    (e : req P (.slice T x lo hi mx) t = some (c, r)) (hc : c.holds) : ReqOK P ρ h a w ⟨dst, .slice T x lo hi mx, ty, pos, after, gu⟩ r := by
  simp only [req] at e
  split at e
  · cases e
  · split at e
    · rename_i s hx
      have h1 := ev_rel C x
      rw [hx] at h1
      have hev := h1 (by simp)
      simp only [gL] at hev
      split at e
      · rename_i hu
        split at e
        · rename_i c1 l c2 u hl hh
          simp only [Option.some.injEq, Prod.mk.injEq] at e
          obtain ⟨rfl, rfl⟩ := e
          obtain ⟨hc3, hle⟩ := bothC_holds hc
          obtain ⟨hc1, hc2⟩ := bothC_holds hc3
          have hb := bounds_run (P := P) (w := w) false s.size s.size (boundK_run C hl hc1) (boundK_run C hh hc2) hle.1 hle.2
          refine ⟨.string (exB s l u), ?_, fun _ => rfl, by simp [AV.names, L.names]⟩
          simp [exB_eq, execOp, Instr.sliceAt, Instr.slice, run_underlying hu, hev, hb]
        · cases e
      · cases e
    · rename_i i off hx
      obtain ⟨hev, hin⟩ := ev_ptr C hx
      split at e
      · rename_i n el hu
        split at e
        · rename_i inf c1 l c2 u hi' hl hh
          split at e
          · rename_i hl0
            simp only [Option.some.injEq, Prod.mk.injEq] at e
            obtain ⟨rfl, rfl⟩ := e
            obtain ⟨hc3, hle⟩ := bothC_holds hc
            obtain ⟨hc1, hc2⟩ := bothC_holds hc3
            obtain rfl : l = 0 := by simpa using hl0
            have hb := bounds_run (P := P) (w := w) false n n (boundK_run C hl hc1) (boundK_run C hh hc2) (Nat.zero_le _) hle
            refine ⟨.slice (some ⟨ρ i, off, none⟩) u n, ?_, fun _ => rfl, by simpa [AV.names, L.names] using hin⟩
            simp [execOp, Instr.sliceAt, Instr.sureAddr, run_underlying hu, hev, hb, sizeOf_run hi', addr_add]
          · cases e
        · cases e
      · cases e
    · cases e
theorem relVs_nth : ∀ {vs : List (Bool × List L)} {us : List Value} (k : Nat), RelVs ρ vs us →
    (∀ ls, vs[k]? = some (true, ls) → ∃ u, us[k]? = some u ∧ RelA ρ (.agg ls) u) ∧ (∀ l, vs[k]? = some (false, [l]) → ∃ u, us[k]? = some u ∧ RelL ρ l u)
  | [], [], k, _ => by simp
  | (true, ls) :: r, u :: us, 0, hr => ⟨fun ls' e => by simp at e; subst e; exact ⟨u, rfl, hr.1⟩, fun l e => by simp at e⟩
  | (true, ls) :: r, u :: us, k + 1, hr => by simpa using relVs_nth k hr.2
  | (false, [l]) :: r, u :: us, 0, hr => ⟨fun ls' e => by simp at e, fun l e => by simp at e; subst e; exact ⟨u, rfl, hr.1⟩⟩
  | (false, [l]) :: r, u :: us, k + 1, hr => by simpa using relVs_nth k hr.2
  | [], _ :: _, _, hr => hr.elim
  | (true, _) :: _, [], _, hr => hr.elim
  | (false, []) :: _, _, _, hr => by cases ‹List Value› <;> exact hr.elim
  | (false, _ :: _ :: _) :: _, _, _, hr => by cases ‹List Value› <;> exact hr.elim
  | (false, [_]) :: _, [], _, hr => hr.elim
theorem vnames_mem {m : Nat} : ∀ {vs : List (Bool × List L)} {k : Nat} {b : Bool} {ls : List L}, vs[k]? = some (b, ls) → m ∈ lnames ls → m ∈ vnames vs
  | [], k, _, _, e, _ => by simp at e
  | (b', ls') :: r, 0, b, ls, e, hm => by simp at e; obtain ⟨rfl, rfl⟩ := e; simp [vnames, hm]
  | (b', ls') :: r, k + 1, b, ls, e, hm => by simp at e; simp [vnames, vnames_mem e hm]
theorem ok_extract (C : Ctx ρ t h a w) {dst : Option Tmp} {x : Operand} {k : Nat} {ty : TypeId} {pos : String} {after : Array Edge} {gu : Option (Nat × Bool)} {c : Cond} {r : Req}
    (e : req P (.extract x k) t = some (c, r)) : ReqOK P ρ h a w ⟨dst, .extract x k, ty, pos, after, gu⟩ r := by
  simp only [req] at e
  split at e
  · rename_i vs hx
    have h1 := ev_rel C x
    have h2 := ev_names C x
    rw [hx] at h1 h2
    obtain ⟨cs, hev, hr⟩ := h1
    have hn := relVs_nth k hr
    split at e
    · rename_i ls hk
      rw [nth_eq] at hk
      simp only [Option.some.injEq, Prod.mk.injEq] at e
      obtain ⟨-, rfl⟩ := e
      obtain ⟨u, hu, hu'⟩ := hn.1 ls hk
      have hu2 : cs[k]? = some u := by simpa using hu
      exact ⟨u, by simp [execOp, Instr.extract, hev, hu2], hu', fun m hm => h2 m (vnames_mem hk hm)⟩
    · rename_i l hk
      rw [nth_eq] at hk
      simp only [Option.some.injEq, Prod.mk.injEq] at e
      obtain ⟨-, rfl⟩ := e
      obtain ⟨u, hu, hu'⟩ := hn.2 l hk
      have hu2 : cs[k]? = some u := by simpa using hu
      exact ⟨u, by simp [execOp, Instr.extract, hev, hu2], hu', fun m hm => h2 m (vnames_mem hk (by simpa [lnames, AV.names] using hm))⟩
    · cases e
  · cases e
theorem ok_store (C : Ctx ρ t h a w) {dst : Option Tmp} {T : TypeId} {x y : Operand} {ty : TypeId} {pos : String} {after : Array Edge} {gu : Option (Nat × Bool)} {c : Cond} {r : Req}
    (e : req P (.store T x y) t = some (c, r)) (hcond : c.holds) : ReqOK P ρ h a w ⟨dst, .store T x y, ty, pos, after, gu⟩ r := by
  simp only [req] at e
  split at e
  · rename_i i off hx
    obtain ⟨hev, hin⟩ := ev_ptr C hx
    split at e
    · rename_i vs hvs
      have hrv := rel_ls (ev_rel C y) hvs
      split at e
      · rename_i inf hok hsz hi
        simp only [Option.some.injEq, Prod.mk.injEq] at e
        obtain ⟨-, rfl⟩ := e
        refine ⟨hin, fun b hb b' hb' => ?_⟩
        cases b with
        | ro T' ls => simp at hb'
        | cells T' ls =>
        obtain ⟨cs, hc, hr⟩ := C.heap i _ hb
        dsimp only at hb'
        split at hb'
        · rename_i hle
          obtain rfl : Blk.cells T' (setLs ls off vs) = b' := by simpa using hb'
          have hle' : off + vs.length ≤ ls.length := by simpa using hle
          have hlv := relLs_len hrv
          have hlc := relLs_len hr
          have hsz' : vs.length = P.cellsOf T := by simpa using hsz
          have hrow := run_storeCells_at (P := P) (ρ i) off T' (a.eval y).cells.toList 0 cs w hc (by simp at hlv hlc ⊢; omega) (okLs_one hrv hok)
          refine ⟨((cs.toList.take (off + 0)) ++ (a.eval y).cells.toList ++ (cs.toList.drop (off + 0 + (a.eval y).cells.toList.length))).toArray, ?_, ⟨_, setRow_heap _ _ _ _ _ _ hc, ?_⟩, ⟨rfl, rfl⟩, ?_⟩
          · have hn : ¬ (a.eval y).cells.size ≠ inf.size := by
              have : P.cellsOf T = inf.size := by simp [Program.cellsOf, hi]
              simp at hlv ⊢; omega
            simp only [execOp, Instr.storeAt, hev, Instr.sureAddr, storeVar]
            simp only [Sem.run_bind, Sem.run_pure, Result.andThen_ok, sizeOf_run hi]
            rw [if_neg hn]
            simp only [hrow, Result.andThen_ok]
          · simpa using relLs_setLs off hr hrv hle'
          · intro m hm
            rcases setLs_names off hm with hm | hm
            · exact C.namesH i _ hb m hm
            · rw [ls_names hvs] at hm; exact ev_names C y m hm
        · cases hb'
      · cases e
    · cases e
  · rename_i i off n k hx
    obtain ⟨hev, hin⟩ := ev_eptr C hx
    split at e
    · rename_i s v hy
      have hyv := ev_rel C y
      rw [hy] at hyv
      have hyv := hyv (by simp)
      split at e
      · rename_i inf hsz hi
        simp only [Option.some.injEq, Prod.mk.injEq] at e
        obtain ⟨rfl, rfl⟩ := e
        have hk : k < n := hcond
        refine ⟨hin, fun b hb b' hb' => ?_⟩
        cases b with
        | ro T' ls => simp at hb'
        | cells T' ls =>
        obtain ⟨cs, hc, hr⟩ := C.heap i _ hb
        dsimp only at hb'
        split at hb'
        · rename_i r ht
          split at hb'
          · rename_i r' hu
            obtain rfl : Blk.cells T' (setLs ls off r') = b' := by simpa using hb'
            have ⟨h1, h2⟩ := relLs_take _ ht (relLs_drop off hr)
            have h3 := updL_rel hu h1
            rw [if_pos (Nat.zero_le _), Nat.sub_zero] at h3
            have hl1 := relLs_len h1
            have hl3 := relLs_len h3
            have hlc := relLs_len hr
            simp at hl1 hl3 h2 hlc
            have h4 := relLs_setLs off hr h3 (by omega)
            have hV : (a.eval y).cells = #[a.eval y] := by rw [hyv]; rfl
            have hone : ∀ u ∈ [a.eval y], u.oneCell' = true := by
              intro u hu
              obtain rfl := List.mem_singleton.1 hu
              rw [hyv]; rfl
            have hrow := run_storeCells_at (P := P) (ρ i) (off + k) T' [a.eval y] 0 cs w hc (by simp; omega) hone
            have hlist : (cs.toList.take (off + k + 0)) ++ [a.eval y] ++ (cs.toList.drop (off + k + 0 + 1)) =
                cs.toList.take off ++ ((cs.toList.drop off).take n).set k (.int (k64 s) (vI s v)) ++ cs.toList.drop (off + (((cs.toList.drop off).take n).set k (.int (k64 s) (vI s v))).length) := by
              have hy' : a.eval y = .int (k64 s) (vI s v) := hyv
              rw [hy']
              generalize Value.int (k64 s) (vI s v) = V
              have hoff : off + n ≤ cs.toList.length := by simp; omega
              generalize cs.toList = l at hoff
              have hA : (l.take off).length = off := by simp; omega
              have hB : ((l.drop off).take n).length = n := by simp; omega
              have hsplit : l = l.take off ++ ((l.drop off).take n ++ l.drop (off + n)) := by
                rw [← List.drop_drop, List.take_append_drop, List.take_append_drop]
              have e1 : l.set (off + k) V = l.take off ++ (((l.drop off).take n).set k V ++ l.drop (off + n)) := by
                conv => lhs; rw [hsplit]
                rw [List.set_append_right _ _ (by rw [hA]; omega), hA, show off + k - off = k by omega, List.set_append_left _ _ (by rw [hB]; exact hk)]
              have e2 : l.set (off + k) V = l.take (off + k) ++ V :: l.drop (off + k + 1) := by
                rw [List.set_eq_take_append_cons_drop, if_pos (by omega)]
              rw [List.length_set, hB, Nat.add_zero, List.append_assoc, List.append_assoc, ← e1, e2]
              rfl
            refine ⟨((cs.toList.take (off + k + 0)) ++ [a.eval y] ++ (cs.toList.drop (off + k + 0 + 1))).toArray, ?_, ⟨_, setRow_heap _ _ _ _ _ _ hc, ?_⟩, ⟨rfl, rfl⟩, ?_⟩
            · have hn : ¬ (a.eval y).cells.size ≠ inf.size := by
                have : P.cellsOf T = inf.size := by simp [Program.cellsOf, hi]
                have hs' : 1 = P.cellsOf T := by simpa using hsz
                rw [hV]; simp; omega
              simp only [execOp, Instr.storeAt, hev, Instr.sureAddr, storeVar]
              simp only [Sem.run_bind, Sem.run_pure, Result.andThen_ok, sizeOf_run hi]
              rw [if_neg hn]
              rw [hV]
              have hrow' := hrow
              simp only [List.length_singleton] at hrow'
              simp only [hrow', Result.andThen_ok]
            · rw [show ((cs.toList.take (off + k + 0)) ++ [a.eval y] ++ (cs.toList.drop (off + k + 0 + 1))).toArray.toList = _ from hlist]
              exact h4
            · intro m hm
              rcases setLs_names off hm with hm | hm
              · exact C.namesH i _ hb m hm
              · rw [updL_names hu] at hm; simp at hm
          · cases hb'
        · cases hb'
      · cases e
    · cases e
  · cases e
end
end Go.El
