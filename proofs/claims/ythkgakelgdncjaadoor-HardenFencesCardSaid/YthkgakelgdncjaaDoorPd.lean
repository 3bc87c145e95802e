/-
  What each operation asks for is what the model's operation does, in every world that is as the evaluator bears it. Conditions: as typed.
-/
import Derived.Test.YthkgakelgdncjaaDoorPc
namespace Go.Ep
open Go.RowKit
set_option linter.unusedVariables false
set_option linter.unusedSimpArgs false

structure Ctx (ρ : Nat → Loc) (t : List AV) (h : Nat → Option Blk) (a : Act) (w : World) : Prop where
  tmps : ∀ n, RelA ρ (getT t n) (a.tmps.getD n undef)
  heap : ∀ i b, h i = some b → RelB ρ (ρ i) b w.heap[(ρ i).b]?
  names : ∀ n, ∀ m ∈ (getT t n).names, h m ≠ none
  namesH : ∀ i b, h i = some b → ∀ m ∈ b.names, h m ≠ none

section
variable {P : Program} {ρ : Nat → Loc} {t : List AV} {h : Nat → Option Blk} {a : Act} {w : World}

theorem ev_rel (C : Ctx ρ t h a w) (x : Operand) : RelA ρ (ev t x) (a.eval x) := by
  cases x with
  | tmp n => exact C.tmps n
  | const v => exact ofV_rel v
  | global g => exact fun _ => rfl
  | func f => exact fun _ => rfl
theorem ev_names (C : Ctx ρ t h a w) (x : Operand) : ∀ m ∈ (ev t x).names, h m ≠ none := by
  cases x with
  | tmp n => exact C.names n
  | const v => simp [ev, ofV_names]
  | global g => simp [ev, AV.names, L.names]
  | func f => simp [ev, AV.names, L.names]
theorem ev_eptr (C : Ctx ρ t h a w) {x : Operand} {i off n k : Nat} (e : ev t x = .one (.eptr i off n k)) : a.eval x = .pointer (some ⟨(ρ i).b, (ρ i).o + (off + k), none⟩) ∧ h i ≠ none := by
  have h1 := ev_rel C x
  rw [e] at h1
  refine ⟨h1 (by simp), ?_⟩
  have h2 := ev_names C x
  rw [e] at h2
  exact h2 i (by simp [AV.names, L.names])
theorem evs_rel (C : Ctx ρ t h a w) : ∀ xs : List Operand, RelAs ρ (evs t xs) (xs.map a.eval)
  | [] => trivial
  | x :: xs => ⟨ev_rel C x, evs_rel C xs⟩
theorem evs_names (C : Ctx ρ t h a w) : ∀ xs : List Operand, ∀ v ∈ evs t xs, ∀ m ∈ v.names, h m ≠ none
  | [], v, hv => by simp [evs] at hv
  | x :: xs, v, hv => by
    simp only [evs, List.mem_cons] at hv
    rcases hv with rfl | hv
    · exact ev_names C x
    · exact evs_names C xs v hv
/-- An own address. -/
theorem ev_ptr (C : Ctx ρ t h a w) {x : Operand} {i off : Nat} (e : ev t x = .one (.ptr i off)) : a.eval x = .pointer (some ⟨(ρ i).b, (ρ i).o + off, none⟩) ∧ h i ≠ none := by
  have h1 := ev_rel C x
  rw [e] at h1
  refine ⟨h1 (by simp), ?_⟩
  have h2 := ev_names C x
  rw [e] at h2
  exact h2 i (by simp [AV.names, L.names])
theorem ev_rptr (C : Ctx ρ t h a w) {x : Operand} {i o z k p : Nat} (e : ev t x = .one (.rptr i o z k p)) : a.eval x = .pointer (some ⟨(ρ i).b, (ρ i).o + (o + (z * k + p)), none⟩) ∧ h i ≠ none := by
  have h1 := ev_rel C x
  rw [e] at h1
  refine ⟨h1 (by simp), ?_⟩
  have h2 := ev_names C x
  rw [e] at h2
  exact h2 i (by simp [AV.names, L.names])
theorem ev_rsl (C : Ctx ρ t h a w) {x : Operand} {i n : Nat} (e : ev t x = .one (.rsl i n)) : a.eval x = .slice (some ⟨(ρ i).b, (ρ i).o, none⟩) n (ρ i).c ∧ h i ≠ none := by
  have h1 := ev_rel C x
  rw [e] at h1
  refine ⟨h1 (by simp), ?_⟩
  have h2 := ev_names C x
  rw [e] at h2
  exact h2 i (by simp [AV.names, L.names])
theorem ev_rsc (C : Ctx ρ t h a w) {x : Operand} {i z k n : Nat} (e : ev t x = .one (.rsc i z k n)) : a.eval x = .slice (some ⟨(ρ i).b, (ρ i).o + (if (ρ i).c = k then 0 else z * k), none⟩) n ((ρ i).c - k) ∧ h i ≠ none := by
  have h1 := ev_rel C x
  rw [e] at h1
  refine ⟨h1 (by simp), ?_⟩
  have h2 := ev_names C x
  rw [e] at h2
  exact h2 i (by simp [AV.names, L.names])
theorem ev_imap (C : Ctx ρ t h a w) {x : Operand} {i : Nat} (e : ev t x = .one (.imap i)) : a.eval x = .map (some (ρ i).b) ∧ h i ≠ none := by
  have h1 := ev_rel C x
  rw [e] at h1
  refine ⟨h1 (by simp), ?_⟩
  have h2 := ev_names C x
  rw [e] at h2
  exact h2 i (by simp [AV.names, L.names])

/-- One block has turned, and nothing else. -/
structure Turned (w w' : World) (k : Nat) : Prop where
  os : w'.os = w.os
  tape : w'.tape = w.tape
  output : w'.output = w.output
  size : w'.heap.size = w.heap.size
  other : ∀ j, j ≠ k → w'.heap[j]? = w.heap[j]?
theorem setRow_turned (w : World) (g : Nat) (cs : Array Value) : Turned w (w.setRow g cs) g := ⟨rfl, rfl, rfl, by simp, fun _ h => setRow_other w g _ cs h⟩
def NewV.val : NewV → Nat → Value
  | .p, b => .pointer (some ⟨b, 0, none⟩)
  | .s n, b => .slice (some ⟨b, 0, none⟩) n n
  | .r n, b => .slice (some ⟨b, 0, none⟩) n n
  | .m, b => .map (some b)
def NewV.cap : NewV → Nat
  | .r n => n
  | _ => 0
/-- What is known of the elements that are appended. -/
def SrcOK (P : Program) (h : Nat → Option Blk) (w : World) (z m : Nat) (tx : TypeId) (vx : Value) : Src → Prop
  | .here g => ∃ news, _root_.Go.Src P z tx vx m news w ∧ SegV z m g news
  | .mem j k => h j ≠ none ∧ ∀ b, h j = some b → ∀ c g, k b = some (c, g) → c.holds → (∀ i, i < m → (g i).length = z) → ∃ news, _root_.Go.Src P z tx vx m news w ∧ SegV z m g news
/-- What the operation must do. -/
def ReqOK (P : Program) (ρ : Nat → Loc) (h : Nat → Option Blk) (a : Act) (w : World) (o : Oper) : Req → Prop
  | .val v => ∃ u, (execOp a.eval o).run P w = .ok (.value u) w ∧ RelA ρ v u ∧ ∀ m ∈ v.names, h m ≠ none
  | .rd i k => h i ≠ none ∧ ∀ b, h i = some b → ∀ c v, k b = some (c, v) → c.holds → ∃ u, (execOp a.eval o).run P w = .ok (.value u) w ∧ RelA ρ v u ∧ ∀ m ∈ v.names, h m ≠ none
  | .wr i k => h i ≠ none ∧ ∀ b, h i = some b → ∀ c b', k b = some (c, b') → c.holds → ∃ w', (execOp a.eval o).run P w = .ok .skip w' ∧ Turned w w' (ρ i).b ∧
      RelB ρ (ρ i) b' w'.heap[(ρ i).b]? ∧ (b.own = true ∧ b'.own = true) ∧ ∀ m ∈ b'.names, h m ≠ none
  | .new b nv => ∃ ob, (execOp a.eval o).run P w = .ok (.value (nv.val w.heap.size)) (w.alloc ob) ∧ RelB ρ ⟨w.heap.size, 0, nv.cap⟩ b (some ob) ∧ b.own = true ∧ ∀ m ∈ b.names, h m ≠ none
  | .call f args => ∃ us, RelAs ρ args us ∧ (execOp a.eval o).run P w = (callFunc f us.toArray).run P w ∧ ∀ v ∈ args, ∀ m ∈ v.names, h m ≠ none
  | .glob T g off => ∀ u, (loadVar T ⟨g, off, none⟩).run P w = .ok u w → (execOp a.eval o).run P w = .ok (.value u) w
  | .look T ok _ b key => ∃ u, RelA ρ key u ∧ ∀ r, (Instr.lookup T (.map (some b)) u ok).run P w = .ok r w → (execOp a.eval o).run P w = .ok (.value r) w
  | .pick b x y => ∃ u, (execOp a.eval o).run P w = .ok (.value u) w ∧ RelA ρ (if b then x else y) u ∧ ∀ m ∈ (if b then x else y).names, h m ≠ none
  | .app base e z m x => ∃ T tx inf zv ty vs vx, P.underlying T = some (.slice e) ∧ P.info? e = some inf ∧ inf.zero = some zv ∧ inf.size = z ∧ zv.cells.size = z ∧ 0 < z ∧ inf.bytes ≤ 4096 ∧
      (match base with | some (_, n) => n | none => 0) + m < 65536 ∧
      (∀ r w', (Builtin.append_ #[T, tx] ty #[vs, vx]).run P w = .ok r w' → (execOp a.eval o).run P w = .ok (.value r) w') ∧
      (match base with | none => vs = .slice none 0 0 | some (i, n) => vs = .slice (some ⟨(ρ i).b, (ρ i).o, none⟩) n (ρ i).c ∧ h i ≠ none) ∧ SrcOK P h w z m tx vx x

theorem addr_add (b o n : Nat) : (⟨b, o, none⟩ : Addr).add n = ⟨b, o + n, none⟩ := by unfold Addr.add; split <;> simp_all
theorem add_addr (b o n : Nat) : ({ block := b, off := o, spot := none } : Addr).add n = { block := b, off := o + n, spot := none } := addr_add b o n

theorem isAgg_run {T : TypeId} {b : Bool} (hb : isAggT P T = some b) : (isAgg T).run P w = .ok b w := by
  unfold isAggT at hb
  cases hu : P.underlying T with
  | none => rw [hu] at hb; cases hb
  | some d => rw [hu] at hb; cases d <;> simp_all [isAgg, run_underlying hu]
theorem sizeOf_run {T : TypeId} {i : TypeInfo} (hi : P.info? T = some i) : (sizeOf T).run P w = .ok i.size w := by
  simp [sizeOf, run_typeInfo (P := P) w hi]
theorem cell_of_rel {i : Nat} {T : TypeId} {cs : Array Value} {fr : Nat × Nat} (hc : w.heap[i]? = some (.cells cs T fr)) (j : Nat) : w.cell? ⟨i, j, none⟩ = cs[j]? := by
  simp [World.cell?, hc]
/-- What stands in a row of cells, from a place on. -/
theorem load_part {i : Nat} {T' : TypeId} {cs : Array Value} {fr : Nat × Nat} (hc : w.heap[i]? = some (.cells cs T' fr)) {T : TypeId} {inf : TypeInfo} (hi : P.info? T = some inf)
    (hA : isAggT P T = some true) (off : Nat) (hl : inf.size ≤ cs.toList.length - off) : (loadVar T ⟨i, off, none⟩).run P w = .ok (.agg ((cs.toList.drop off).take inf.size).toArray) w := by
  have hlen : ((cs.toList.drop off).take inf.size).length = inf.size := by simp at hl ⊢; omega
  have hl' := run_loadCells_list (P := P) w ⟨i, off, none⟩ ((cs.toList.drop off).take inf.size) (fun j v hv => by
    rw [addr_add, cell_of_rel hc]
    rw [List.getElem?_take] at hv
    split at hv
    · rw [List.getElem?_drop] at hv; simpa using hv
    · cases hv)
  rw [hlen] at hl'
  simp [loadVar, isAgg_run hA, sizeOf_run hi, hl']
theorem load_one {i : Nat} {T' : TypeId} {cs : Array Value} {fr : Nat × Nat} (hc : w.heap[i]? = some (.cells cs T' fr)) {T : TypeId}
    (hA : isAggT P T = some false) (off : Nat) {v : Value} (hv : (cs.toList.drop off).head? = some v) : (loadVar T ⟨i, off, none⟩).run P w = .ok v w := by
  have : w.cell? ⟨i, off, none⟩ = some v := by
    rw [cell_of_rel hc]
    rw [List.head?_drop] at hv; simpa using hv
  simp [loadVar, isAgg_run hA, this]

/-- What is read of a block, and in the block itself. -/
theorem rd_get (C : Ctx ρ t h a w) {i : Nat} {b : Blk} {ls : List L} (hb : h i = some b) (e : b.rdL = some ls) :
    ∃ (T : TypeId) (cs : Array Value) (fr : Nat × Nat) (us ws : List Value), w.heap[(ρ i).b]? = some (.cells cs T fr) ∧ cs.toList.drop (ρ i).o = us ++ ws ∧ RelLs ρ ls us ∧ b.names = lnames ls := by
  obtain ⟨T, cs, fr, h1, us, ws, h2, h3⟩ := relB_get (C.heap i b hb) e
  exact ⟨T, cs, fr, us, ws, h1, h2, h3, names_rdL e⟩
theorem load_agg {i : Nat} {T' : TypeId} {cs : Array Value} {fr : Nat × Nat} (hc : w.heap[i]? = some (.cells cs T' fr)) {T : TypeId} {inf : TypeInfo} (hi : P.info? T = some inf)
    (hA : isAggT P T = some true) {o off : Nat} {us ws : List Value} (hd : cs.toList.drop o = us ++ ws) {r : List L} (hr : RelLs ρ r ((us.drop off).take inf.size)) (hl : inf.size ≤ (us.drop off).length) :
    ∃ u, (loadVar T ⟨i, o + off, none⟩).run P w = .ok u w ∧ RelA ρ (.agg r) u := by
  have hlen := congrArg List.length hd
  simp at hlen hl
  have e : (cs.toList.drop (o + off)).take inf.size = (us.drop off).take inf.size := by
    rw [← List.drop_drop, hd]
    by_cases h0 : inf.size = 0
    · simp [h0]
    · rw [List.drop_append_of_le_length (by omega), List.take_append_of_le_length (by simp; omega)]
  refine ⟨_, load_part hc hi hA (o + off) (by simp; omega), _, rfl, ?_⟩
  rw [e]
  exact hr
theorem load_cell {i : Nat} {T' : TypeId} {cs : Array Value} {fr : Nat × Nat} (hc : w.heap[i]? = some (.cells cs T' fr)) {T : TypeId} (hA : isAggT P T = some false) {o off : Nat} {us ws : List Value}
    (hd : cs.toList.drop o = us ++ ws) {v : Value} (hv : (us.drop off).head? = some v) : (loadVar T ⟨i, o + off, none⟩).run P w = .ok v w := by
  refine load_one hc hA (o + off) ?_
  rw [List.head?_drop] at hv ⊢
  have : (cs.toList.drop o)[off]? = some v := by
    rw [hd, List.getElem?_append_left (List.getElem?_eq_some_iff.1 hv).1]; exact hv
  rwa [List.getElem?_drop] at this
theorem ok_load (C : Ctx ρ t h a w) {dst : Option Tmp} {T : TypeId} {x : Operand} {ty : TypeId} {pos : String} {after : Array Edge} {gu : Option (Nat × Bool)} {c : Cond} {r : Req}
    (e : req P (.load T x) t = some (c, r)) (hcond : c.holds) : ReqOK P ρ h a w ⟨dst, .load T x, ty, pos, after, gu⟩ r := by
  simp only [req] at e
  split at e
  · rename_i i off hx
    obtain ⟨hev, hin⟩ := ev_ptr C hx
    split at e
    · rename_i inf hi
      split at e
      · rename_i hA
        simp only [Option.some.injEq, Prod.mk.injEq] at e
        obtain ⟨-, rfl⟩ := e
        refine ⟨hin, fun b hb c v hv _ => ?_⟩
        dsimp only at hv
        split at hv
        · rename_i ls hls
          obtain ⟨T', cs, fr, us, ws, hc, hd, hr, hn⟩ := rd_get C hb hls
          split at hv
          · rename_i r ht
            simp only [Option.some.injEq, Prod.mk.injEq] at hv
            obtain ⟨-, rfl⟩ := hv
            have ⟨h1, h2⟩ := relLs_take _ ht (relLs_drop off hr)
            obtain ⟨u, hu, hur⟩ := load_agg (P := P) hc hi hA hd h1 h2
            refine ⟨u, ?_, hur, fun m hm => C.namesH i b hb m (by rw [hn]; exact sub_names ht hm)⟩
            simp [execOp, Instr.loadAt, hev, Instr.sureAddr, hu]
          · cases hv
        · cases hv
      · rename_i hA
        simp only [Option.some.injEq, Prod.mk.injEq] at e
        obtain ⟨-, rfl⟩ := e
        refine ⟨hin, fun b hb c v hv _ => ?_⟩
        dsimp only at hv
        split at hv
        · rename_i ls hls
          obtain ⟨T', cs, fr, us, ws, hc, hd, hr, hn⟩ := rd_get C hb hls
          split at hv
          · rename_i l ht
            simp only [Option.some.injEq, Prod.mk.injEq] at hv
            obtain ⟨-, rfl⟩ := hv
            obtain ⟨v, hv, hl, -⟩ := relLs_head (relLs_drop off hr) ht
            refine ⟨v, ?_, hl, fun m hm => C.namesH i b hb m (by rw [hn]; exact head_names ht hm)⟩
            simp [execOp, Instr.loadAt, hev, Instr.sureAddr, load_cell (P := P) hc hA hd hv]
          · cases hv
        · cases hv
      · cases e
    · cases e
  · rename_i p hx
    have h1 := ev_rel C x
    rw [hx] at h1
    have hev := h1 (by simp)
    simp only [gL] at hev
    split at e
    · rename_i hs
      simp only [Option.some.injEq, Prod.mk.injEq] at e
      obtain ⟨-, rfl⟩ := e
      intro u hu
      have hp : (⟨p.block, p.off, none⟩ : Addr) = p := by rw [← hs]
      rw [hp] at hu
      simp [execOp, Instr.loadAt, hev, Instr.sureAddr, hu]
    · cases e
  · rename_i i off n k hx
    obtain ⟨hev, hin⟩ := ev_eptr C hx
    split at e
    · rename_i inf hi
      split at e
      · rename_i hA
        simp only [Option.some.injEq, Prod.mk.injEq] at e
        obtain ⟨rfl, rfl⟩ := e
        have hk : k < n := hcond
        refine ⟨hin, fun b hb c v hv _ => ?_⟩
        dsimp only at hv
        split at hv
        · rename_i ls hls
          obtain ⟨T', cs, fr, us, ws, hc, hd, hr, hn⟩ := rd_get C hb hls
          split at hv
          · rename_i r ht
            split at hv
            · rename_i l hl
              simp only [Option.some.injEq, Prod.mk.injEq] at hv
              obtain ⟨-, rfl⟩ := hv
              have ⟨h1, h2⟩ := relLs_take _ ht (relLs_drop off hr)
              obtain ⟨h3, h4⟩ := selL_get hl h1 (by simp at h2 ⊢; omega)
              refine ⟨gL ρ l, ?_, fun _ => rfl, by simp [AV.names, h4]⟩
              have hv' : (us.drop (off + k)).head? = some (gL ρ l) := by
                rw [List.getElem?_take, if_pos hk, List.getElem?_drop] at h3
                rw [List.head?_drop]; exact h3
              simp [execOp, Instr.loadAt, hev, Instr.sureAddr, load_cell (P := P) hc hA hd hv']
            · cases hv
          · cases hv
        · cases hv
      · cases e
    · cases e
  · rename_i i o z k p hx
    obtain ⟨hev, hin⟩ := ev_rptr C hx
    split at e
    · rename_i inf hi
      split at e
      · rename_i hA
        simp only [Option.some.injEq, Prod.mk.injEq] at e
        obtain ⟨-, rfl⟩ := e
        refine ⟨hin, fun b hb c v hv hcc => ?_⟩
        dsimp only at hv
        split at hv
        · rename_i ls hls
          obtain ⟨T', cs, fr, us, ws, hc, hd, hr, hn⟩ := rd_get C hb hls
          split at hv
          · rename_i c' r ht
            simp only [Option.some.injEq, Prod.mk.injEq] at hv
            obtain ⟨rfl, rfl⟩ := hv
            have ⟨h1, h2⟩ := relLs_rdR hr ht hcc
            obtain ⟨u, hu, hur⟩ := load_agg (P := P) hc hi hA hd h1 h2
            refine ⟨u, ?_, hur, fun m hm => C.namesH i b hb m (by rw [hn]; exact rdR_names ht hm)⟩
            simp [execOp, Instr.loadAt, hev, Instr.sureAddr, hu]
          · cases hv
        · cases hv
      · rename_i hA
        simp only [Option.some.injEq, Prod.mk.injEq] at e
        obtain ⟨-, rfl⟩ := e
        refine ⟨hin, fun b hb c v hv hcc => ?_⟩
        dsimp only at hv
        split at hv
        · rename_i ls hls
          obtain ⟨T', cs, fr, us, ws, hc, hd, hr, hn⟩ := rd_get C hb hls
          split at hv
          · rename_i c' r ht
            split at hv
            · rename_i l hl
              simp only [Option.some.injEq, Prod.mk.injEq] at hv
              obtain ⟨rfl, rfl⟩ := hv
              have ⟨h1, h2⟩ := relLs_rdR hr ht hcc
              obtain ⟨v, hv, hl', -⟩ := relLs_head h1 hl
              have hv' : (us.drop (o + (z * k + p))).head? = some v := by
                cases hx : us.drop (o + (z * k + p)) with
                | nil => rw [hx] at hv; simp at hv
                | cons y ys => rw [hx] at hv; simpa using hv
              refine ⟨v, ?_, hl', fun m hm => C.namesH i b hb m (by rw [hn]; exact rdR_names ht (headL_names hl hm))⟩
              simp [execOp, Instr.loadAt, hev, Instr.sureAddr, load_cell (P := P) hc hA hd hv']
            · cases hv
          · cases hv
        · cases hv
      · cases e
    · cases e
  · cases e
/-! Own maps of numbers -/
def mfind : List (BitVec 64 × BitVec 64) → BitVec 64 → Nat → Option (Nat × Value)
  | [], _, _ => none
  | (x, y) :: r, a, i => if a = x then some (i, .int .i64 y.toInt) else mfind r a (i + 1)
theorem toInt_beq (a x : BitVec 64) : (a.toInt == x.toInt) = decide (a = x) := by
  by_cases h : a = x
  · subst h; simp
  · rw [decide_eq_false h, beq_eq_false_iff_ne]
    exact fun e => h (BitVec.eq_of_toInt_eq e)
theorem findNow_ent : ∀ (l : List (BitVec 64 × BitVec 64)) (es : List MapEntry) (a : BitVec 64) (i : Nat), es.map (fun e => (e.key, e.val)) = entsOf l → Instr.findNow (.int .i64) (.int .i64 a.toInt) es i = some (mfind l a i)
  | [], es, a, i, h => by
    obtain rfl : es = [] := by simpa [entsOf] using h
    rfl
  | (x, y) :: l, [], a, i, h => by simp [entsOf] at h
  | (x, y) :: l, e :: es, a, i, h => by
    simp only [List.map_cons, entsOf, List.cons.injEq, Prod.mk.injEq] at h
    obtain ⟨⟨h1, h2⟩, h3⟩ := h
    have ih := findNow_ent l es a (i + 1) h3
    simp only [Instr.findNow, h1, h2, Instr.sameNow, if_true, toInt_beq]
    by_cases hx : a = x
    · simp [hx, mfind]
    · simp [hx, mfind, ih]
theorem mfind_val : ∀ (l : List (BitVec 64 × BitVec 64)) (a : BitVec 64) (i : Nat), (mfind l a i = none ∧ mhas l a = false ∧ mval l a = 0#64) ∨ ∃ j, mfind l a i = some (j, .int .i64 (mval l a).toInt) ∧ mhas l a = true
  | [], a, i => .inl ⟨rfl, rfl, rfl⟩
  | (x, y) :: l, a, i => by
    simp only [mfind, mhas, mval]
    by_cases hx : a = x
    · exact .inr ⟨i, by simp [hx], by simp [hx]⟩
    · simp only [if_neg hx]
      have hb : (a == x) = false := by simpa using hx
      rw [hb, Bool.false_or]
      exact mfind_val l a (i + 1)
theorem mput_find : ∀ (l : List (BitVec 64 × BitVec 64)) (a b : BitVec 64) (i : Nat), (mfind l a i = none ∧ entsOf (mput l a b) = entsOf l ++ [(.int .i64 a.toInt, .int .i64 b.toInt)]) ∨
    ∃ j v u, mfind l a i = some (i + j, v) ∧ (entsOf l)[j]? = some (.int .i64 a.toInt, u) ∧ entsOf (mput l a b) = (entsOf l).set j (.int .i64 a.toInt, .int .i64 b.toInt)
  | [], a, b, i => .inl ⟨rfl, rfl⟩
  | (x, y) :: l, a, b, i => by
    simp only [mfind, mput]
    by_cases hx : a = x
    · subst hx
      exact .inr ⟨0, _, _, by simp; rfl, by simp [entsOf]; rfl, by simp [entsOf]⟩
    · simp only [if_neg hx]
      rcases mput_find l a b (i + 1) with ⟨h1, h2⟩ | ⟨j, v, u, h1, h2, h3⟩
      · exact .inl ⟨h1, by simp only [entsOf, List.map_cons, List.cons_append] at h2 ⊢; rw [h2]⟩
      · exact .inr ⟨j + 1, v, u, by rw [h1]; congr 2; omega, by simpa [entsOf] using h2, by simp only [entsOf, List.map_cons, List.set_cons_succ] at h3 ⊢; rw [h3]⟩
theorem isI64_eq {T : TypeId} (h : isI64 P T = true) : P.underlying T = some (.int .i64) := by
  unfold isI64 at h
  split at h
  · assumption
  · cases h
theorem find_ent {k : TypeId} (hk : P.underlying k = some (.int .i64)) {l : List (BitVec 64 × BitVec 64)} {es : Array MapEntry} (h : es.toList.map (fun e => (e.key, e.val)) = entsOf l) (a : BitVec 64) :
    (Instr.findKey k (.int .i64 a.toInt) es.toList).run P w = .ok (mfind l a 0) w := MapKept.run_findKey hk (findNow_ent l _ a 0 h)
theorem check_int {k : TypeId} (hk : P.underlying k = some (.int .i64)) (e : Bool) (a : BitVec 64) : (Instr.checkKey e 10000 k (.int .i64 a.toInt)).run P w = .ok () w := by
  unfold Instr.checkKey
  simp only [Sem.run_bind, run_underlying hk, Result.andThen]
  rfl
theorem look_ent {T k e : TypeId} {inf : TypeInfo} (hT : P.underlying T = some (.map k e)) (hk : P.underlying k = some (.int .i64)) (hi : P.info? e = some inf) (hz : inf.zero = some (.int .i64 0))
    {b clock : Nat} {l : List (BitVec 64 × BitVec 64)} {es : Array MapEntry} (hb : w.heap[b]? = some (.map es clock)) (h : es.toList.map (fun e => (e.key, e.val)) = entsOf l) (a : BitVec 64) (ok : Bool) :
    (Instr.lookup T (.map (some b)) (.int .i64 a.toInt) ok).run P w = .ok (if ok then .tuple #[.int .i64 (mval l a).toInt, .bool (mhas l a)] else .int .i64 (mval l a).toInt) w := by
  have hzero : (zeroValue e).run P w = .ok (.int .i64 0) w := by simp [zeroValue, run_typeInfo (P := P) w hi, hz]
  rcases mfind_val l a 0 with ⟨h1, h2, h3⟩ | ⟨j, h1, h2⟩
  · simp [Instr.lookup, run_underlying hT, MapKept.run_getObj_map hb, check_int hk, find_ent hk h, h1, h2, h3, hzero, Result.andThen]
  · simp [Instr.lookup, run_underlying hT, MapKept.run_getObj_map hb, check_int hk, find_ent hk h, h1, h2, Result.andThen]
theorem put_ent {T k e : TypeId} (hT : P.underlying T = some (.map k e)) (hk : P.underlying k = some (.int .i64))
    {b clock : Nat} {l : List (BitVec 64 × BitVec 64)} {es : Array MapEntry} (hb : w.heap[b]? = some (.map es clock)) (h : es.toList.map (fun e => (e.key, e.val)) = entsOf l) (a c : BitVec 64) :
    ∃ w', (Instr.mapUpdate T (.map (some b)) (.int .i64 a.toInt) (.int .i64 c.toInt)).run P w = .ok () w' ∧ Turned w w' b ∧ ∃ es' clock', w'.heap[b]? = some (.map es' clock') ∧ es'.toList.map (fun e => (e.key, e.val)) = entsOf (mput l a c) := by
  have hlt : b < w.heap.size := (Array.getElem?_eq_some_iff.1 hb).1
  have turn : ∀ o : Obj, Turned w { w with heap := w.heap.setIfInBounds b o } b := fun o =>
    ⟨rfl, rfl, rfl, by simp, fun j hj => by simp [Array.getElem?_setIfInBounds, Ne.symm hj]⟩
  have there : ∀ o : Obj, ({ w with heap := w.heap.setIfInBounds b o } : World).heap[b]? = some o := fun o => by simp [hlt]
  rcases mput_find l a c 0 with ⟨h1, h2⟩ | ⟨j, v, u, h1, h2, h3⟩
  · refine ⟨_, ?_, turn (.map (es.push { key := .int .i64 a.toInt, val := .int .i64 c.toInt, born := clock }) (clock + 1)), _, _, there _, ?_⟩
    · simp [Instr.mapUpdate, run_underlying hT, MapKept.run_getObj_map hb, check_int hk, find_ent hk h, h1, MapKept.run_setObj_map _ hb, Result.andThen]
    · rw [h2, Array.toList_push, List.map_append, h]; rfl
  · rw [Nat.zero_add] at h1
    rw [← h, List.getElem?_map] at h2
    have hst : (Instr.keyThatStays (.int .i64 a.toInt) (.int .i64 a.toInt)).run P w = .ok (.int .i64 a.toInt) w := by
      simp [Instr.keyThatStays, Instr.sameBits]
    cases hj : es.toList[j]? with
    | none => rw [hj] at h2; simp at h2
    | some e0 =>
      rw [hj] at h2
      simp only [Option.map_some, Option.some.injEq, Prod.mk.injEq] at h2
      have hj' : es[j]? = some e0 := by simpa using hj
      refine ⟨_, ?_, turn (.map (es.modify j fun e => { e with key := .int .i64 a.toInt, val := .int .i64 c.toInt }) clock), _, _, there _, ?_⟩
      · simp [Instr.mapUpdate, run_underlying hT, MapKept.run_getObj_map hb, check_int hk, find_ent hk h, h1, hj', h2.1, hst, MapKept.run_setObj_map _ hb, Result.andThen]
      · rw [h3, ← h, Array.toList_modify]
        apply List.ext_getElem?
        intro i
        simp only [List.getElem?_map, List.getElem?_modify, List.getElem?_set]
        by_cases hij : j = i
        · subst hij
          rw [hj]
          have : j < es.size := by simpa using (List.getElem?_eq_some_iff.1 hj).1
          simp [this]
        · simp [hij]
theorem ev_i64 (C : Ctx ρ t h a w) {x : Operand} {y : BitVec 64} (e : ev t x = .one (.b64 true y)) : a.eval x = .int .i64 y.toInt := by
  have h1 := ev_rel C x
  rw [e] at h1
  exact h1 (by simp)
theorem ok_lookup (C : Ctx ρ t h a w) {dst : Option Tmp} {T : TypeId} {x i : Operand} {ok : Bool} {ty : TypeId} {pos : String} {after : Array Edge} {gu : Option (Nat × Bool)} {c : Cond} {r : Req}
    (e : req P (.lookup T x i ok) t = some (c, r)) : ReqOK P ρ h a w ⟨dst, .lookup T x i ok, ty, pos, after, gu⟩ r := by
  simp only [req] at e
  split at e
  · rename_i g b hx
    have h1 := ev_rel C x
    rw [hx] at h1
    have hev := h1 (by simp)
    simp only [gL] at hev
    simp only [Option.some.injEq, Prod.mk.injEq] at e
    obtain ⟨-, rfl⟩ := e
    refine ⟨a.eval i, ev_rel C i, fun r hr => ?_⟩
    simp [execOp, hev, hr]
  · rename_i j hx
    obtain ⟨hev, hin⟩ := ev_imap C hx
    split at e
    · rename_i kt et hT
      split at e
      · rename_i inf hk he hi
        split at e
        · rename_i hz
          split at e
          · rename_i y hy
            simp only [Option.some.injEq, Prod.mk.injEq] at e
            obtain ⟨-, rfl⟩ := e
            refine ⟨hin, fun b hb c v hv _ => ?_⟩
            cases b with
            | imap es =>
              simp only [Option.some.injEq, Prod.mk.injEq] at hv
              obtain ⟨-, rfl⟩ := hv
              obtain ⟨ents, clock, hw, hes⟩ := C.heap j _ hb
              have hl := look_ent (P := P) hT (isI64_eq hk) hi hz hw hes y ok
              refine ⟨_, by simp [execOp, hev, ev_i64 C hy, hl]; rfl, ?_, ?_⟩
              · cases ok
                · exact fun _ => rfl
                · exact ⟨_, rfl, fun _ => rfl, fun _ => rfl, trivial⟩
              · cases ok <;> simp [AV.names, L.names, vnames, lnames]
            | romap es =>
              simp only [Option.some.injEq, Prod.mk.injEq] at hv
              obtain ⟨-, rfl⟩ := hv
              obtain ⟨ents, clock, hw, hes⟩ := C.heap j _ hb
              have hl := look_ent (P := P) hT (isI64_eq hk) hi hz hw hes y ok
              refine ⟨_, by simp [execOp, hev, ev_i64 C hy, hl]; rfl, ?_, ?_⟩
              · cases ok
                · exact fun _ => rfl
                · exact ⟨_, rfl, fun _ => rfl, fun _ => rfl, trivial⟩
              · cases ok <;> simp [AV.names, L.names, vnames, lnames]
            | _ => simp at hv
          · cases e
        · cases e
      · cases e
    · cases e
  · rename_i hx
    have h1 := ev_rel C x
    rw [hx] at h1
    have hev := h1 (by simp)
    simp only [gL] at hev
    split at e
    · rename_i kt et hT
      split at e
      · rename_i inf hk he hi
        split at e
        · rename_i hz
          split at e
          · rename_i y hy
            simp only [Option.some.injEq, Prod.mk.injEq] at e
            obtain ⟨-, rfl⟩ := e
            have hzero : (zeroValue et).run P w = .ok (.int .i64 0) w := by simp [zeroValue, run_typeInfo (P := P) w hi, hz]
            have hf : (Instr.findKey kt (.int .i64 y.toInt) []).run P w = .ok none w := MapKept.run_findKey (isI64_eq hk) rfl
            have hl : (Instr.lookup T (.map none) (.int .i64 y.toInt) ok).run P w = .ok (if ok then .tuple #[.int .i64 0, .bool false] else .int .i64 0) w := by
              simp [Instr.lookup, run_underlying hT, check_int (isI64_eq hk), hf, hzero, Result.andThen]
            refine ⟨_, by simp [execOp, hev, ev_i64 C hy, hl]; rfl, ?_, ?_⟩
            · cases ok
              · exact fun _ => rfl
              · exact ⟨_, rfl, fun _ => rfl, fun _ => rfl, trivial⟩
            · cases ok <;> simp [AV.names, L.names, vnames, lnames]
          · cases e
        · cases e
      · cases e
    · cases e
  · cases e
theorem ok_mapUpdate (C : Ctx ρ t h a w) {dst : Option Tmp} {T : TypeId} {x k v : Operand} {ty : TypeId} {pos : String} {after : Array Edge} {gu : Option (Nat × Bool)} {c : Cond} {r : Req}
    (e : req P (.mapUpdate T x k v) t = some (c, r)) : ReqOK P ρ h a w ⟨dst, .mapUpdate T x k v, ty, pos, after, gu⟩ r := by
  simp only [req] at e
  split at e
  · rename_i j hx
    obtain ⟨hev, hin⟩ := ev_imap C hx
    split at e
    · rename_i kt et hT
      split at e
      · rename_i hk he
        split at e
        · rename_i y y' hy hy'
          simp only [Option.some.injEq, Prod.mk.injEq] at e
          obtain ⟨-, rfl⟩ := e
          refine ⟨hin, fun b hb c b' hb' _ => ?_⟩
          cases b with
          | imap es =>
            simp only [Option.some.injEq, Prod.mk.injEq] at hb'
            obtain ⟨-, rfl⟩ := hb'
            obtain ⟨ents, clock, hw, hes⟩ := C.heap j _ hb
            obtain ⟨w', hrun, htu, es', clock', hw', hes'⟩ := put_ent (P := P) hT (isI64_eq hk) hw hes y y'
            exact ⟨w', by simp [execOp, hev, ev_i64 C hy, ev_i64 C hy', hrun], htu, ⟨es', clock', hw', hes'⟩, ⟨rfl, rfl⟩, by simp [Blk.names]⟩
          | _ => simp at hb'
        · cases e
      · cases e
    · cases e
  · cases e
theorem ok_makeMap {dst : Option Tmp} {T : TypeId} {rs : Option Operand} {ty : TypeId} {pos : String} {after : Array Edge} {gu : Option (Nat × Bool)} {c : Cond} {r : Req}
    (e : req P (.makeMap T rs) t = some (c, r)) : ReqOK P ρ h a w ⟨dst, .makeMap T rs, ty, pos, after, gu⟩ r := by
  simp only [req] at e
  split at e
  · cases e
  · split at e
    · split at e
      · split at e
        · simp only [Option.some.injEq, Prod.mk.injEq] at e
          obtain ⟨-, rfl⟩ := e
          exact ⟨.map #[] 0, by simp [execOp, Instr.makeMap, NewV.val], ⟨#[], 0, rfl, rfl⟩, rfl, by simp [Blk.names]⟩
        · cases e
      · cases e
    · cases e

theorem ok_move (C : Ctx ρ t h a w) {dst : Option Tmp} {x : Operand} {ty : TypeId} {pos : String} {after : Array Edge} {gu : Option (Nat × Bool)} : ReqOK P ρ h a w ⟨dst, .move x, ty, pos, after, gu⟩ (.val (ev t x)) :=
  ⟨a.eval x, by simp [execOp], ev_rel C x, ev_names C x⟩
theorem ok_assign (C : Ctx ρ t h a w) {dst : Option Tmp} {x : Operand} {ty : TypeId} {pos : String} {after : Array Edge} {gu : Option (Nat × Bool)} : ReqOK P ρ h a w ⟨dst, .assign x, ty, pos, after, gu⟩ (.val (ev t x)) :=
  ⟨a.eval x, by simp [execOp], ev_rel C x, ev_names C x⟩
theorem ev_bool (C : Ctx ρ t h a w) {x : Operand} {b : Bool} (e : ev t x = .one (.bool b)) : a.eval x = .bool b := by
  have h1 := ev_rel C x
  rw [e] at h1
  exact h1 (by simp)
theorem ok_pick (C : Ctx ρ t h a w) {dst : Option Tmp} {c x y : Operand} {ty : TypeId} {pos : String} {after : Array Edge} {gu : Option (Nat × Bool)} {b : Bool} (e : ev t c = .one (.bool b)) :
    ReqOK P ρ h a w ⟨dst, .pick c x y, ty, pos, after, gu⟩ (.pick b (ev t x) (ev t y)) := by
  refine ⟨if b then a.eval x else a.eval y, ?_, ?_, ?_⟩
  · simp [execOp, ev_bool C e, asBool]
  · cases b
    · exact ev_rel C y
    · exact ev_rel C x
  · cases b
    · exact ev_names C y
    · exact ev_names C x
theorem ok_box (C : Ctx ρ t h a w) {dst : Option Tmp} {T : TypeId} {x : Operand} {ty : TypeId} {pos : String} {after : Array Edge} {gu : Option (Nat × Bool)} {ls : List L} (e : (ev t x).ls = some ls) :
    ReqOK P ρ h a w ⟨dst, .box T x, ty, pos, after, gu⟩ (.new (.cells T ls) .p) := by
  refine ⟨.cells (a.eval x).cells T, ?_, ⟨_, rfl, rfl, rel_ls (ev_rel C x) e⟩, rfl, ?_⟩
  · simp [execOp, Instr.box, newVar, newRow, NewV.val]
  · simp only [Blk.names, ls_names e]; exact ev_names C x
theorem ok_alloc {dst : Option Tmp} {T : TypeId} {ty : TypeId} {pos : String} {after : Array Edge} {gu : Option (Nat × Bool)} {i : TypeInfo} {z : Value} {ls : List L}
    (hi : P.info? T = some i) (hz : i.zero = some z) (e : (ofV z).ls = some ls) : ReqOK P ρ h a w ⟨dst, .alloc T, ty, pos, after, gu⟩ (.new (.cells T (norm P 8 T ls)) .p) := by
  refine ⟨.cells z.cells T, ?_, ⟨_, rfl, rfl, norm_rel _ _ _ _ (rel_ls (ofV_rel z) e)⟩, rfl, fun m hm => ?_⟩
  · simp [execOp, Instr.alloc, zeroValue, run_typeInfo (P := P) w hi, hz, newVar, newRow, NewV.val]
  · have := norm_names _ _ _ (show m ∈ lnames (norm P 8 T ls) from hm)
    simp [ls_names e, ofV_names] at this
theorem caps_rel (C : Ctx ρ t h a w) : ∀ {xs : List Operand} {r : List (Nat × Nat)}, capsOf t xs = some r → xs.map a.eval = capVals ρ r ∧ ∀ m ∈ capN r, h m ≠ none
  | [], r, e => by simp [capsOf] at e; subst e; exact ⟨rfl, by simp [capN]⟩
  | x :: xs, r, e => by
    simp only [capsOf] at e
    split at e
    · rename_i i o hx
      split at e
      · rename_i r' hr
        obtain rfl : (i, o) :: r' = r := by simpa using e
        obtain ⟨h1, h2⟩ := ev_ptr C hx
        obtain ⟨h3, h4⟩ := caps_rel C hr
        refine ⟨by simp [capVals, h1, h3], fun m hm => ?_⟩
        simp only [capN, List.mem_cons] at hm
        rcases hm with rfl | hm
        · exact h2
        · exact h4 m hm
      · cases e
    · cases e
theorem ok_makeFunc (C : Ctx ρ t h a w) {dst : Option Tmp} {fn : Fn} {fst cap : Array Operand} {ty : TypeId} {pos : String} {after : Array Edge} {gu : Option (Nat × Bool)} {c : Cond} {r : Req}
    (e : req P (.makeFunc fn fst cap) t = some (c, r)) : ReqOK P ρ h a w ⟨dst, .makeFunc fn fst cap, ty, pos, after, gu⟩ r := by
  simp only [req] at e
  split at e
  · rename_i f hf
    split at e
    · rename_i r' hr
      simp only [Option.some.injEq, Prod.mk.injEq] at e
      obtain ⟨-, rfl⟩ := e
      obtain ⟨h1, h2⟩ := caps_rel C hr
      obtain rfl : fst = #[] := by cases fst; simp_all
      refine ⟨_, ?_, fun _ => rfl, by simpa [AV.names, L.names] using h2⟩
      simp only [execOp, Instr.makeFunc, gL]
      have : cap.map a.eval = (capVals ρ r').toArray := by rw [← h1, ← Array.toList_map, Array.toArray_toList]
      simp [this]
    · cases e
  · cases e
theorem ok_nilCheck (C : Ctx ρ t h a w) {dst : Option Tmp} {x : Operand} {ty : TypeId} {pos : String} {after : Array Edge} {gu : Option (Nat × Bool)} {c : Cond} {r : Req} (e : req P (.nilCheck x) t = some (c, r)) :
    ReqOK P ρ h a w ⟨dst, .nilCheck x, ty, pos, after, gu⟩ r := by
  simp only [req] at e
  split at e
  · rename_i i off hx
    simp only [Option.some.injEq, Prod.mk.injEq] at e
    obtain ⟨-, rfl⟩ := e
    obtain ⟨hev, hin⟩ := ev_ptr C hx
    exact ⟨_, by simp only [execOp, hev]; rfl, fun _ => rfl, by simpa [AV.names, L.names] using hin⟩
  · rename_i i o z k p hx
    simp only [Option.some.injEq, Prod.mk.injEq] at e
    obtain ⟨-, rfl⟩ := e
    obtain ⟨hev, hin⟩ := ev_rptr C hx
    exact ⟨_, by simp only [execOp, hev]; rfl, fun _ => rfl, by simpa [AV.names, L.names] using hin⟩
  · cases e
theorem nth_eq {α : Type _} : ∀ (l : List α) (n : Nat), nth l n = l[n]?
  | [], n => by simp [nth]
  | x :: l, 0 => by simp [nth]
  | x :: l, n + 1 => by simp [nth, nth_eq l n]
theorem ok_fieldAddr (C : Ctx ρ t h a w) {dst : Option Tmp} {T : TypeId} {x : Operand} {f : Nat} {ty : TypeId} {pos : String} {after : Array Edge} {gu : Option (Nat × Bool)} {c : Cond} {r : Req}
    (e : req P (.fieldAddr T x f) t = some (c, r)) : ReqOK P ρ h a w ⟨dst, .fieldAddr T x f, ty, pos, after, gu⟩ r := by
  simp only [req] at e
  split at e
  · rename_i i off hx
    obtain ⟨hev, hin⟩ := ev_ptr C hx
    split at e
    · rename_i fs hu
      split at e
      · rename_i fd hf
        rw [nth_eq] at hf
        split at e
        · rename_i inf hi
          split at e
          · rename_i hz
            simp only [Option.some.injEq, Prod.mk.injEq] at e
            obtain ⟨-, rfl⟩ := e
            have hz' : ¬ inf.size = 0 := Nat.ne_of_beq_eq_false hz
            refine ⟨_, ?_, fun _ => rfl, by simpa [AV.names, L.names] using hin⟩
            have hf' : fs[f]? = some fd := by simpa using hf
            simp [execOp, Instr.fieldAt, run_underlying hu, hf', hev, Instr.sureAddr, fieldPlace, sizeOf_run hi, hz', addr_add, gL, Nat.add_assoc]
          · cases e
        · cases e
      · cases e
    · cases e
  · rename_i i o z k p hx
    obtain ⟨hev, hin⟩ := ev_rptr C hx
    split at e
    · rename_i fs hu
      split at e
      · rename_i fd hf
        rw [nth_eq] at hf
        split at e
        · rename_i inf hi
          split at e
          · rename_i hz
            simp only [Option.some.injEq, Prod.mk.injEq] at e
            obtain ⟨-, rfl⟩ := e
            have hz' : ¬ inf.size = 0 := Nat.ne_of_beq_eq_false hz
            refine ⟨_, ?_, fun _ => rfl, by simpa [AV.names, L.names] using hin⟩
            have hf' : fs[f]? = some fd := by simpa using hf
            simp [execOp, Instr.fieldAt, run_underlying hu, hf', hev, Instr.sureAddr, fieldPlace, sizeOf_run hi, hz', addr_add, gL, Nat.add_assoc]
          · cases e
        · cases e
      · cases e
    · cases e
  · rename_i p hx
    have h1 := ev_rel C x
    rw [hx] at h1
    have hev := h1 (by simp)
    simp only [gL] at hev
    split at e
    · rename_i hsp
      have hp : p = ⟨p.block, p.off, none⟩ := by rw [← hsp]
      split at e
      · rename_i fs hu
        split at e
        · rename_i fd hf
          rw [nth_eq] at hf
          split at e
          · rename_i inf hi
            split at e
            · rename_i hz
              simp only [Option.some.injEq, Prod.mk.injEq] at e
              obtain ⟨-, rfl⟩ := e
              have hz' : ¬ inf.size = 0 := Nat.ne_of_beq_eq_false hz
              refine ⟨_, ?_, fun _ => rfl, by simp [AV.names, L.names]⟩
              have hf' : fs[f]? = some fd := by simpa using hf
              rw [hp] at hev
              simp [execOp, Instr.fieldAt, run_underlying hu, hf', hev, Instr.sureAddr, fieldPlace, sizeOf_run hi, hz', addr_add, gL, Nat.add_assoc]
            · cases e
          · cases e
        · cases e
      · cases e
    · cases e
  · cases e
theorem part_run {cs : Array Value} {ls : List L} (hr : RelLs ρ ls cs.toList) {T : TypeId} {inf : TypeInfo} (hi : P.info? T = some inf) (hA : isAggT P T = some true) (off : Nat) {r : List L}
    (ht : takeL (dropL ls off) inf.size = some r) : ∃ u, (part T cs off).run P w = .ok u w ∧ RelA ρ (.agg r) u := by
  have ⟨h1, h2⟩ := relLs_take _ ht (relLs_drop off hr)
  refine ⟨.agg (cs.extract off (off + inf.size)), by simp [part, isAgg_run hA, sizeOf_run hi], _, rfl, ?_⟩
  rw [Array.toList_extract, List.extract_eq_take_drop]
  rw [show off + inf.size - off = inf.size by omega]
  exact h1
theorem part_one {cs : Array Value} {ls : List L} (hr : RelLs ρ ls cs.toList) {T : TypeId} (hA : isAggT P T = some false) (off : Nat) {l : L}
    (ht : headL (dropL ls off) = some l) : ∃ u, (part T cs off).run P w = .ok u w ∧ RelL ρ l u := by
  obtain ⟨v, hv, hl, -⟩ := relLs_head (relLs_drop off hr) ht
  refine ⟨v, ?_, hl⟩
  have : cs[off]? = some v := by rw [List.head?_drop] at hv; simpa using hv
  simp [part, isAgg_run hA, this]
theorem ok_field (C : Ctx ρ t h a w) {dst : Option Tmp} {T : TypeId} {x : Operand} {f : Nat} {ty : TypeId} {pos : String} {after : Array Edge} {gu : Option (Nat × Bool)} {c : Cond} {r : Req}
    (e : req P (.field T x f) t = some (c, r)) : ReqOK P ρ h a w ⟨dst, .field T x f, ty, pos, after, gu⟩ r := by
  simp only [req] at e
  split at e
  · rename_i ls hx
    have h1 := ev_rel C x
    have h2 := ev_names C x
    rw [hx] at h1 h2
    obtain ⟨cs, hev, hr⟩ := h1
    split at e
    · rename_i fs hu
      split at e
      · rename_i fd hf
        rw [nth_eq] at hf
        have hf' : fs[f]? = some fd := by simpa using hf
        split at e
        · rename_i inf hi
          split at e
          · rename_i hA
            split at e
            · rename_i r' ht
              simp only [Option.some.injEq, Prod.mk.injEq] at e
              obtain ⟨-, rfl⟩ := e
              obtain ⟨u, hu', hr'⟩ := part_run (P := P) (w := w) hr hi hA _ ht
              exact ⟨u, by simp [execOp, Instr.field, run_underlying hu, hf', hev, asAgg, hu'], hr', fun m hm => h2 m (sub_names ht hm)⟩
            · cases e
          · rename_i hA
            split at e
            · rename_i l ht
              simp only [Option.some.injEq, Prod.mk.injEq] at e
              obtain ⟨-, rfl⟩ := e
              obtain ⟨u, hu', hr'⟩ := part_one (P := P) (w := w) hr hA _ ht
              exact ⟨u, by simp [execOp, Instr.field, run_underlying hu, hf', hev, asAgg, hu'], hr', fun m hm => h2 m (head_names ht hm)⟩
            · cases e
          · cases e
        · cases e
      · cases e
    · cases e
  · cases e
theorem bothC_holds {c d : Cond} (h : (bothC c d).holds) : c.holds ∧ d.holds := by
  cases c with
  | t => exact ⟨trivial, h⟩
  | p p i => cases d with
    | t => exact ⟨h, trivial⟩
    | p q j => exact h
theorem constIx_eval {x : Operand} {n : Nat} (hx : constIx x = some n) : a.eval x = .int .i64 n := by
  cases x with
  | const v =>
    cases v with
    | int k m =>
      cases k <;> cases m <;> simp [constIx] at hx
      subst hx; rfl
    | _ => simp [constIx] at hx
  | _ => simp [constIx] at hx
theorem andC_holds {c : Cond} {p : Prop} [Decidable p] (h : (andC c p).holds) : c.holds ∧ p := by
  cases c with
  | t => exact ⟨trivial, h⟩
  | p q i => exact h
theorem ix_run {y : L} {c : Cond} {n : Nat} (e : ixL y = some (c, n)) (hc : c.holds) {v : Value} (hv : RelL ρ y v) : ∃ k m, v = .int k m ∧ 0 ≤ m ∧ m.toNat = n := by
  cases y with
  | b64 s x =>
    obtain rfl := hv (by simp)
    cases s <;> simp only [ixL, Option.some.injEq, Prod.mk.injEq] at e <;> obtain ⟨rfl, rfl⟩ := e
    · exact ⟨_, _, rfl, by simp [vI], by simp [vI]⟩
    · exact ⟨_, _, rfl, hc, n_toNat x hc⟩
  | b32 s x =>
    obtain rfl := hv (by simp)
    cases s <;> simp only [ixL, Option.some.injEq, Prod.mk.injEq] at e <;> obtain ⟨rfl, rfl⟩ := e
    · exact ⟨_, _, rfl, by simp [vI], by simp [vI]⟩
    · exact ⟨_, _, rfl, hc, n_toNat x hc⟩
  | b16 s x =>
    obtain rfl := hv (by simp)
    cases s <;> simp only [ixL, Option.some.injEq, Prod.mk.injEq] at e <;> obtain ⟨rfl, rfl⟩ := e
    · exact ⟨_, _, rfl, by simp [vI], by simp [vI]⟩
    · exact ⟨_, _, rfl, hc, n_toNat x hc⟩
  | b8 s x =>
    obtain rfl := hv (by simp)
    cases s <;> simp only [ixL, Option.some.injEq, Prod.mk.injEq] at e <;> obtain ⟨rfl, rfl⟩ := e
    · exact ⟨_, _, rfl, by simp [vI], by simp [vI]⟩
    · exact ⟨_, _, rfl, hc, n_toNat x hc⟩
  | _ => simp [ixL] at e
theorem ev_slc (C : Ctx ρ t h a w) {x : Operand} {i off n c : Nat} (e : ev t x = .one (.slc i off n c)) : a.eval x = .slice (some ⟨(ρ i).b, (ρ i).o + off, none⟩) n c ∧ h i ≠ none := by
  have h1 := ev_rel C x
  rw [e] at h1
  refine ⟨h1 (by simp), ?_⟩
  have h2 := ev_names C x
  rw [e] at h2
  exact h2 i (by simp [AV.names, L.names])
theorem ok_indexAddr (C : Ctx ρ t h a w) {dst : Option Tmp} {T : TypeId} {x i : Operand} {ty : TypeId} {pos : String} {after : Array Edge} {gu : Option (Nat × Bool)} {c : Cond} {r : Req}
    (e : req P (.indexAddr T x i) t = some (c, r)) (hc : c.holds) : ReqOK P ρ h a w ⟨dst, .indexAddr T x i, ty, pos, after, gu⟩ r := by
  simp only [req] at e
  split at e
  · rename_i b off hx
    obtain ⟨hev, hin⟩ := ev_ptr C hx
    split at e
    · rename_i n el hu
      split at e
      · rename_i inf hi
        split at e
        · rename_i k hk
          split at e
          · rename_i hlt
            simp only [Option.some.injEq, Prod.mk.injEq] at e
            obtain ⟨-, rfl⟩ := e
            have hlt' : k < n := by simpa using hlt
            refine ⟨_, ?_, fun _ => rfl, by simpa [AV.names, L.names] using hin⟩
            have hk' := constIx_eval (a := a) hk
            simp [execOp, Instr.indexAt, hk', asIntOf, run_underlying hu, hev, Instr.sureAddr, sizeOf_run hi, hlt', addr_add, gL, Nat.add_assoc]
          · cases e
        · split at e
          · rename_i l hl
            split at e
            · rename_i c' k hk
              split at e
              · rename_i h16 hs1
                simp only [Option.some.injEq, Prod.mk.injEq] at e
                obtain ⟨rfl, rfl⟩ := e
                obtain ⟨h1, hlt⟩ := andC_holds hc
                have hrl := ev_rel C i
                rw [hl] at hrl
                obtain ⟨ki, m, hv, h0, rfl⟩ := ix_run hk h1 hrl
                have hlt' : m < (n : Int) := by omega
                have hsz : inf.size = 1 := by simpa using hs1
                refine ⟨_, ?_, fun _ => rfl, by simpa [AV.names, L.names] using hin⟩
                simp [execOp, Instr.indexAt, hv, asIntOf, run_underlying hu, hev, Instr.sureAddr, sizeOf_run hi, h0, hlt', addr_add, gL, hsz, Nat.add_assoc]
              · have key : c'.holds → k < n → (execOp a.eval ⟨dst, .indexAddr T x i, ty, pos, after, gu⟩).run P w = .ok (.value (.pointer (some ⟨(ρ b).b, (ρ b).o + (off + k * inf.size), none⟩))) w := by
                  intro h1 hlt
                  have hrl := ev_rel C i
                  rw [hl] at hrl
                  obtain ⟨ki, m, hv, h0, rfl⟩ := ix_run hk h1 hrl
                  have hlt' : m < (n : Int) := by omega
                  simp [execOp, Instr.indexAt, hv, asIntOf, run_underlying hu, hev, Instr.sureAddr, sizeOf_run hi, h0, hlt', addr_add, Nat.add_assoc]
                split at e
                · simp only [Option.some.injEq, Prod.mk.injEq] at e
                  obtain ⟨rfl, rfl⟩ := e
                  obtain ⟨h1, hlt⟩ := andC_holds hc
                  exact ⟨_, key h1 hlt, fun _ => by simp [gL, Nat.mul_comm], by simpa [AV.names, L.names] using hin⟩
                · simp only [Option.some.injEq, Prod.mk.injEq] at e
                  obtain ⟨rfl, rfl⟩ := e
                  obtain ⟨h1, hlt⟩ := andC_holds hc
                  exact ⟨_, key h1 hlt, fun _ => rfl, by simpa [AV.names, L.names] using hin⟩
            · cases e
          · cases e
      · cases e
    · cases e
  · rename_i b off len cp hx
    obtain ⟨hev, hin⟩ := ev_slc C hx
    split at e
    · rename_i el hu
      split at e
      · rename_i inf hi
        split at e
        · rename_i l hl
          split at e
          · rename_i c' k hk
            simp only [Option.some.injEq, Prod.mk.injEq] at e
            obtain ⟨rfl, rfl⟩ := e
            obtain ⟨h1, hlt⟩ := andC_holds hc
            have hrl := ev_rel C i
            rw [hl] at hrl
            obtain ⟨ki, m, hv, h0, rfl⟩ := ix_run hk h1 hrl
            have hlt' : m < (len : Int) := by omega
            refine ⟨_, ?_, fun _ => rfl, by simpa [AV.names, L.names] using hin⟩
            simp [execOp, Instr.indexAt, hv, asIntOf, run_underlying hu, hev, sizeOf_run hi, h0, hlt', addr_add, gL, Nat.add_assoc, Nat.mul_comm]
          · cases e
        · cases e
      · cases e
    · cases e
  · rename_i b len hx
    obtain ⟨hev, hin⟩ := ev_rsl C hx
    split at e
    · rename_i el hu
      split at e
      · rename_i inf hi
        split at e
        · rename_i l hl
          split at e
          · rename_i c' k hk
            simp only [Option.some.injEq, Prod.mk.injEq] at e
            obtain ⟨rfl, rfl⟩ := e
            obtain ⟨h1, hlt⟩ := andC_holds hc
            have hrl := ev_rel C i
            rw [hl] at hrl
            obtain ⟨ki, m, hv, h0, rfl⟩ := ix_run hk h1 hrl
            have hlt' : m < (len : Int) := by omega
            refine ⟨_, ?_, fun _ => rfl, by simpa [AV.names, L.names] using hin⟩
            simp [execOp, Instr.indexAt, hv, asIntOf, run_underlying hu, hev, sizeOf_run hi, h0, hlt', addr_add, gL, Nat.mul_comm]
          · cases e
        · cases e
      · cases e
    · cases e
  · rename_i b z frm len hx
    obtain ⟨hev, hin⟩ := ev_rsc C hx
    split at e
    · rename_i el hu
      split at e
      · rename_i inf hi
        split at e
        · rename_i l hl
          split at e
          · rename_i c' k hk
            simp only [Option.some.injEq, Prod.mk.injEq] at e
            obtain ⟨rfl, rfl⟩ := e
            obtain ⟨h1, hlt⟩ := andC_holds hc
            have hrl := ev_rel C i
            rw [hl] at hrl
            obtain ⟨ki, m, hv, h0, rfl⟩ := ix_run hk h1 hrl
            have hlt' : m < (len : Int) := by omega
            refine ⟨hin, fun blk hb c v hbv hcc => ?_⟩
            cases blk with
            | row T' z' n' f =>
              dsimp only at hbv
              split at hbv
              · rename_i hz
                simp only [Option.some.injEq, Prod.mk.injEq] at hbv
                obtain ⟨rfl, rfl⟩ := hbv
                obtain rfl : z = inf.size := by simpa using hz
                have hle : frm + len ≤ n' := hcc
                obtain ⟨cs, hw, hq, hsz, hnc, -, hseg⟩ := C.heap b _ hb
                have hne : ¬ (ρ b).c = frm := by omega
                rw [if_neg hne] at hev
                refine ⟨_, ?_, fun _ => rfl, by simpa [AV.names, L.names] using hin⟩
                simp [execOp, Instr.indexAt, hv, asIntOf, run_underlying hu, hev, sizeOf_run hi, h0, hlt', addr_add, gL, Nat.mul_add, Nat.add_assoc, Nat.mul_comm]
              · cases hbv
            | _ => simp at hbv
          · cases e
        · cases e
      · cases e
    · cases e
  · rename_i p hx
    have h1 := ev_rel C x
    rw [hx] at h1
    have hev := h1 (by simp)
    simp only [gL] at hev
    split at e
    · rename_i hsp
      have hp : p = ⟨p.block, p.off, none⟩ := by rw [← hsp]
      split at e
      · rename_i n el hu
        split at e
        · rename_i inf hi
          split at e
          · rename_i l hl
            split at e
            · rename_i c' k hk
              simp only [Option.some.injEq, Prod.mk.injEq] at e
              obtain ⟨rfl, rfl⟩ := e
              obtain ⟨h1, hlt⟩ := andC_holds hc
              have hrl := ev_rel C i
              rw [hl] at hrl
              obtain ⟨ki, m, hv, h0, rfl⟩ := ix_run hk h1 hrl
              have hlt' : m < (n : Int) := by omega
              refine ⟨_, ?_, fun _ => rfl, by simp [AV.names, L.names]⟩
              rw [hp] at hev
              simp [execOp, Instr.indexAt, hv, asIntOf, run_underlying hu, hev, Instr.sureAddr, sizeOf_run hi, h0, hlt', addr_add, gL]
            · cases e
          · cases e
        · cases e
      · cases e
    · cases e
  · rename_i b o z k p hx
    obtain ⟨hev, hin⟩ := ev_rptr C hx
    split at e
    · rename_i n el hu
      split at e
      · rename_i inf hi
        split at e
        · rename_i j hk
          split at e
          · rename_i hlt
            simp only [Option.some.injEq, Prod.mk.injEq] at e
            obtain ⟨-, rfl⟩ := e
            have hlt' : j < n := by simpa using hlt
            refine ⟨_, ?_, fun _ => rfl, by simpa [AV.names, L.names] using hin⟩
            have hk' := constIx_eval (a := a) hk
            simp [execOp, Instr.indexAt, hk', asIntOf, run_underlying hu, hev, Instr.sureAddr, sizeOf_run hi, hlt', addr_add, gL, Nat.add_assoc]
          · cases e
        · split at e
          · rename_i l hl
            split at e
            · rename_i c' j hk
              simp only [Option.some.injEq, Prod.mk.injEq] at e
              obtain ⟨rfl, rfl⟩ := e
              obtain ⟨h1, hlt⟩ := andC_holds hc
              have hrl := ev_rel C i
              rw [hl] at hrl
              obtain ⟨ki, m, hv, h0, rfl⟩ := ix_run hk h1 hrl
              have hlt' : m < (n : Int) := by omega
              refine ⟨_, ?_, fun _ => rfl, by simpa [AV.names, L.names] using hin⟩
              simp [execOp, Instr.indexAt, hv, asIntOf, run_underlying hu, hev, Instr.sureAddr, sizeOf_run hi, h0, hlt', addr_add, gL, Nat.add_assoc]
            · cases e
          · cases e
      · cases e
    · cases e
  · cases e
theorem part_rd {cs : Array Value} {ls : List L} (hr : RelLs ρ ls cs.toList) {T : TypeId} {inf : TypeInfo} (hi : P.info? T = some inf) (hA : isAggT P T = some true) {z k : Nat} {r : List L} {c : Cond}
    (ht : rdR ls 0 z k 0 inf.size = some (c, r)) (hc : c.holds) : ∃ u, (part T cs (k * z)).run P w = .ok u w ∧ RelA ρ (.agg r) u := by
  have ⟨h1, h2⟩ := relLs_rdR hr ht hc
  rw [Nat.zero_add, Nat.add_zero, Nat.mul_comm z k] at h1
  refine ⟨.agg (cs.extract (k * z) (k * z + inf.size)), by simp [part, isAgg_run hA, sizeOf_run hi], _, rfl, ?_⟩
  rw [Array.toList_extract, List.extract_eq_take_drop]
  rw [show k * z + inf.size - k * z = inf.size by omega]
  exact h1
theorem part_rd1 {cs : Array Value} {ls : List L} (hr : RelLs ρ ls cs.toList) {T : TypeId} (hA : isAggT P T = some false) {k : Nat} {r : List L} {c : Cond} {l : L}
    (ht : rdR ls 0 1 k 0 1 = some (c, r)) (hl : headL r = some l) (hc : c.holds) : ∃ u, (part T cs k).run P w = .ok u w ∧ RelL ρ l u := by
  have ⟨h1, h2⟩ := relLs_rdR hr ht hc
  rw [Nat.zero_add, Nat.add_zero, Nat.one_mul] at h1
  obtain ⟨v, hv, hl', -⟩ := relLs_head h1 hl
  refine ⟨v, ?_, hl'⟩
  have : cs[k]? = some v := by
    rw [List.head?_take, if_neg (by omega), List.head?_drop] at hv
    simpa using hv
  simp [part, isAgg_run hA, this]
theorem nthB_eq : ∀ (xs : List UInt8) (n : Nat), nthB xs n = (xs[n]?.getD 0).toBitVec
  | [], n => by simp [nthB]
  | x :: xs, 0 => by simp [nthB]
  | x :: xs, n + 1 => by simp [nthB, nthB_eq xs n]
theorem ixO_run (C : Ctx ρ t h a w) {i : Operand} {c : Cond} {k : Nat} (e : (match constIx i with | some k => some (Cond.t, k) | none => match ev t i with | .one l => ixL l | _ => none) = some (c, k)) (hc : c.holds) :
    ∃ ki m, a.eval i = .int ki m ∧ 0 ≤ m ∧ m.toNat = k := by
  split at e
  · rename_i k' hk'
    simp only [Option.some.injEq, Prod.mk.injEq] at e
    obtain ⟨-, rfl⟩ := e
    exact ⟨_, _, constIx_eval (a := a) hk', by omega, by simp⟩
  · split at e
    · rename_i l hl
      have hrl := ev_rel C i
      rw [hl] at hrl
      exact ix_run e hc hrl
    · cases e
theorem ok_index (C : Ctx ρ t h a w) {dst : Option Tmp} {T : TypeId} {x i : Operand} {ty : TypeId} {pos : String} {after : Array Edge} {gu : Option (Nat × Bool)} {c : Cond} {r : Req}
    (e : req P (.index T x i) t = some (c, r)) (hc : c.holds) : ReqOK P ρ h a w ⟨dst, .index T x i, ty, pos, after, gu⟩ r := by
  simp only [req] at e
  split at e
  · rename_i ls hx
    have h1 := ev_rel C x
    have h2 := ev_names C x
    rw [hx] at h1 h2
    obtain ⟨cs, hev, hr⟩ := h1
    split at e
    · rename_i n el hu
      split at e
      · rename_i inf c' k hi hk
        -- the index
        have key : c'.holds → ∃ ki m, a.eval i = .int ki m ∧ 0 ≤ m ∧ m < (n : Int) ∧ m.toNat = k := by
          intro hc'
          split at hk
          · rename_i k' hk'
            split at hk
            · rename_i hlt
              simp only [Option.some.injEq, Prod.mk.injEq] at hk
              obtain ⟨-, rfl⟩ := hk
              have hlt' : k' < n := by simpa using hlt
              exact ⟨_, _, constIx_eval (a := a) hk', by omega, by omega, by simp⟩
            · cases hk
          · split at hk
            · rename_i l hl
              split at hk
              · rename_i c2 k2 hk2
                simp only [Option.some.injEq, Prod.mk.injEq] at hk
                obtain ⟨rfl, rfl⟩ := hk
                obtain ⟨h3, hlt⟩ := andC_holds hc'
                have hrl := ev_rel C i
                rw [hl] at hrl
                obtain ⟨ki, m, hv, h0, hm⟩ := ix_run hk2 h3 hrl
                exact ⟨ki, m, hv, h0, by omega, hm⟩
              · cases hk
            · cases hk
        split at e
        · rename_i hA
          split at e
          · rename_i d r' ht
            simp only [Option.some.injEq, Prod.mk.injEq] at e
            obtain ⟨rfl, rfl⟩ := e
            obtain ⟨hc1, hc2⟩ := bothC_holds hc
            obtain ⟨ki, m, hv, h0, hlt, rfl⟩ := key hc1
            obtain ⟨u, hu', hr'⟩ := part_rd (P := P) (w := w) hr hi hA ht hc2
            exact ⟨u, by simp [execOp, Instr.index, hv, asIntOf, run_underlying hu, hev, sizeOf_run hi, h0, hlt, hu'], hr', fun m hm => h2 m (rdR_names ht hm)⟩
          · cases e
        · rename_i hA
          split at e
          · rename_i hs1
            have hs1' : inf.size = 1 := by simpa using hs1
            split at e
            · rename_i l hsel
              simp only [Option.some.injEq, Prod.mk.injEq] at e
              obtain ⟨rfl, rfl⟩ := e
              obtain ⟨hc1, hc2⟩ := bothC_holds hc
              obtain ⟨ki, m, hv, h0, hlt, rfl⟩ := key hc1
              have hsel' : selL ls m.toNat = some l := by
                split at hsel
                · cases hsel
                · exact hsel
              have hlen := selL_len hsel' hr
              obtain ⟨g1, g2⟩ := selL_get hsel' hr (by rw [hlen]; exact hc2)
              have hu' : (part el cs m.toNat).run P w = .ok (gL ρ l) w := by
                have : cs[m.toNat]? = some (gL ρ l) := by simpa using g1
                simp [part, isAgg_run hA, this]
              exact ⟨gL ρ l, by simp [execOp, Instr.index, hv, asIntOf, run_underlying hu, hev, sizeOf_run hi, h0, hlt, hs1', hu'], fun _ => rfl, fun m hm => by simp only [AV.names] at hm; rw [g2] at hm; cases hm⟩
            · split at e
              · rename_i d r' ht
                split at e
                · rename_i l hl
                  simp only [Option.some.injEq, Prod.mk.injEq] at e
                  obtain ⟨rfl, rfl⟩ := e
                  obtain ⟨hc1, hc2⟩ := bothC_holds hc
                  obtain ⟨ki, m, hv, h0, hlt, rfl⟩ := key hc1
                  obtain ⟨u, hu', hr'⟩ := part_rd1 (P := P) (w := w) hr hA ht hl hc2
                  exact ⟨u, by simp [execOp, Instr.index, hv, asIntOf, run_underlying hu, hev, sizeOf_run hi, h0, hlt, hs1', hu'], hr', fun m hm => h2 m (rdR_names ht (headL_names hl hm))⟩
                · cases e
              · cases e
          · cases e
        · cases e
      · cases e
    · cases e
  · rename_i s hx
    have h1 := ev_rel C x
    rw [hx] at h1
    have hev := h1 (by simp)
    simp only [gL] at hev
    split at e
    · rename_i hu
      split at e
      · rename_i c' k hk
        simp only [Option.some.injEq, Prod.mk.injEq] at e
        obtain ⟨rfl, rfl⟩ := e
        obtain ⟨hc', hlt⟩ := andC_holds hc
        obtain ⟨ki, m, hv, h0, rfl⟩ := ixO_run C hk hc'
        have hb : s[m.toNat]? = some s.data[m.toNat] := by
          rw [getElem?_def, dif_pos hlt]; rfl
        have hd : s.data[m.toNat]? = some s.data[m.toNat] := by simp
        refine ⟨.int .u8 (s.data[m.toNat].toNat : Int), ?_, fun _ => ?_, by simp [AV.names, L.names]⟩
        · simp [execOp, Instr.index, hv, asIntOf, run_underlying hu, hev, h0, hb]
        · simp only [gL, byteAt, nthB_eq]; rw [← Array.getElem?_toList] at hd; rw [hd]; rfl
      · cases e
    · cases e
  · cases e
theorem dropU_eq : ∀ (xs : List UInt8) (n : Nat), dropU xs n = xs.drop n
  | xs, 0 => by cases xs <;> rfl
  | [], n + 1 => by simp [dropU]
  | _ :: xs, n + 1 => by simp [dropU, dropU_eq xs n]
theorem takeU_eq : ∀ (xs : List UInt8) (n : Nat), takeU xs n = xs.take n
  | xs, 0 => by cases xs <;> rfl
  | [], n + 1 => by simp [takeU]
  | _ :: xs, n + 1 => by simp [takeU, takeU_eq xs n]
theorem exB_eq (s : ByteArray) (l h : Nat) : s.extract l h = exB s l h := by
  apply ByteArray.ext
  rw [ByteArray.data_extract]
  apply Array.ext'
  rw [Array.toList_extract, List.extract_eq_take_drop]
  simp only [exB, takeU_eq, dropU_eq]
theorem boundK_run (C : Ctx ρ t h a w) {x : Option Operand} {d k : Nat} {c : Cond} (e : boundK t x d = some (c, k)) (hc : c.holds) :
    (x.map a.eval = none ∧ k = d) ∨ ∃ ki m, x.map a.eval = some (.int ki m) ∧ 0 ≤ m ∧ m.toNat = k := by
  unfold boundK at e
  split at e
  · simp only [Option.some.injEq, Prod.mk.injEq] at e
    obtain ⟨-, rfl⟩ := e
    exact .inl ⟨rfl, rfl⟩
  · rename_i x
    obtain ⟨ki, m, hv, h0, hm⟩ := ixO_run C (i := x) (c := c) (k := k) e hc
    exact .inr ⟨ki, m, by simp [hv], h0, hm⟩
theorem bounds_run (b : Bool) (len cap : Nat) {lo hi : Option Value} {l u : Nat} (hlo : (lo = none ∧ l = 0) ∨ ∃ k m, lo = some (.int k m) ∧ 0 ≤ m ∧ m.toNat = l)
    (hhi : (hi = none ∧ u = len) ∨ ∃ k m, hi = some (.int k m) ∧ 0 ≤ m ∧ m.toNat = u) (h1 : l ≤ u) (h2 : u ≤ cap) : (Instr.sliceBounds b len cap lo hi none).run P w = .ok (l, u, cap) w := by
  have hb : ∀ (k : IntKind) (m : Int) (y : Nat) (code : BoundsCode), 0 ≤ m → m.toNat ≤ y → (Instr.sliceBound (.int k m) y code).run P w = .ok m.toNat w := by
    intro k m y code h0 h1
    simp [Instr.sliceBound, asIntOf, h0, show m ≤ (y : Int) by omega]
  rcases hlo with ⟨rfl, rfl⟩ | ⟨k, m, rfl, h3, rfl⟩ <;> rcases hhi with ⟨rfl, rfl⟩ | ⟨k', m', rfl, h4, rfl⟩
  · simp [Instr.sliceBounds]
  · simp [Instr.sliceBounds, hb _ _ _ _ h4 h2]
  · simp [Instr.sliceBounds, hb _ _ _ _ h3 h1]
  · simp [Instr.sliceBounds, hb _ _ _ _ h4 h2, hb _ _ _ _ h3 h1]
theorem bounds_run3 (b : Bool) (len cap : Nat) {u m : Nat} {vh vm : Value}
    (hhi : ∃ k n, vh = .int k n ∧ 0 ≤ n ∧ n.toNat = u) (hm : ∃ k n, vm = .int k n ∧ 0 ≤ n ∧ n.toNat = m) (h2 : u ≤ m) (h3 : m ≤ cap) : (Instr.sliceBounds b len cap none (some vh) (some vm)).run P w = .ok (0, u, m) w := by
  have hb : ∀ (k : IntKind) (m : Int) (y : Nat) (code : BoundsCode), 0 ≤ m → m.toNat ≤ y → (Instr.sliceBound (.int k m) y code).run P w = .ok m.toNat w := by
    intro k m y code h0 h1
    simp [Instr.sliceBound, asIntOf, h0, show m ≤ (y : Int) by omega]
  obtain ⟨k, n, rfl, h0, rfl⟩ := hm
  obtain ⟨k', m', rfl, h4, rfl⟩ := hhi
  simp [Instr.sliceBounds, hb _ _ _ _ h0 h3, hb _ _ _ _ h4 h2]
theorem ok_slice (C : Ctx ρ t h a w) {dst : Option Tmp} {T : TypeId} {x : Operand} {lo hi mx : Option Operand} {ty : TypeId} {pos : String} {after : Array Edge} {gu : Option (Nat × Bool)} {c : Cond} {r : Req}
    (e : req P (.slice T x lo hi mx) t = some (c, r)) (hc : c.holds) : ReqOK P ρ h a w ⟨dst, .slice T x lo hi mx, ty, pos, after, gu⟩ r := by
  simp only [req] at e
  split at e
  · rename_i mo
    split at e
    · rename_i i n hx
      obtain ⟨hev, hin⟩ := ev_rsl C hx
      split at e
      · rename_i el hu
        split at e
        · rename_i inf ho c1 u c2 m hi' hh hm
          simp only [Option.some.injEq, Prod.mk.injEq] at e
          obtain ⟨rfl, rfl⟩ := e
          obtain ⟨hc3, hle⟩ := bothC_holds hc
          obtain ⟨hc1, hc2⟩ := bothC_holds hc3
          refine ⟨hin, fun b hb c v hv hcc => ?_⟩
          cases b with
          | row T' z n' f =>
            dsimp only at hv
            split at hv
            · rename_i hz
              simp only [Option.some.injEq, Prod.mk.injEq] at hv
              obtain ⟨rfl, rfl⟩ := hv
              have hmn : m ≤ n' := hcc
              obtain ⟨cs, hw, h0, hsz, hnc, -, hseg⟩ := C.heap i _ hb
              have hm' : ∃ k q, a.eval mo = .int k q ∧ 0 ≤ q ∧ q.toNat = m := by
                rcases boundK_run C (k := m) (x := some mo) (by assumption) (by assumption) with ⟨h, -⟩ | ⟨k, q, h, h0, h1⟩
                · simp at h
                · exact ⟨k, q, by simpa using h, h0, h1⟩
              have hh' : ∃ k q, a.eval ho = .int k q ∧ 0 ≤ q ∧ q.toNat = u := by
                rcases boundK_run C (k := u) (x := some ho) (by assumption) (by assumption) with ⟨h, -⟩ | ⟨k, q, h, h0, h1⟩
                · simp at h
                · exact ⟨k, q, by simpa using h, h0, h1⟩
              have hbd := bounds_run3 (P := P) (w := w) true n (ρ i).c hh' hm' hle (Nat.le_trans hmn hnc)
              refine ⟨.slice (some ⟨(ρ i).b, (ρ i).o, none⟩) u m, ?_, fun _ => by simp [gL], by simpa [AV.names, L.names] using hin⟩
              simp [execOp, Instr.sliceAt, Instr.slice, run_underlying hu, hev, hbd, sizeOf_run hi', addr_add]
            · cases hv
          | _ => simp at hv
        · cases e
      · cases e
    · cases e
  · split at e
    · rename_i s hx
      have h1 := ev_rel C x
      rw [hx] at h1
      have hev := h1 (by simp)
      simp only [gL] at hev
      split at e
      · rename_i hu
        split at e
        · rename_i c1 l c2 u hl hh
          simp only [Option.some.injEq, Prod.mk.injEq] at e
          obtain ⟨rfl, rfl⟩ := e
          obtain ⟨hc3, hle⟩ := bothC_holds hc
          obtain ⟨hc1, hc2⟩ := bothC_holds hc3
          have hb := bounds_run (P := P) (w := w) false s.size s.size (boundK_run C hl hc1) (boundK_run C hh hc2) hle.1 hle.2
          refine ⟨.string (exB s l u), ?_, fun _ => rfl, by simp [AV.names, L.names]⟩
          simp [exB_eq, execOp, Instr.sliceAt, Instr.slice, run_underlying hu, hev, hb]
        · cases e
      · cases e
    · rename_i i off hx
      obtain ⟨hev, hin⟩ := ev_ptr C hx
      split at e
      · rename_i n el hu
        split at e
        · rename_i inf c1 l c2 u hi' hl hh
          split at e
          · rename_i hl0
            simp only [Option.some.injEq, Prod.mk.injEq] at e
            obtain ⟨rfl, rfl⟩ := e
            obtain ⟨hc3, hle⟩ := bothC_holds hc
            obtain ⟨hc1, hc2⟩ := bothC_holds hc3
            obtain rfl : l = 0 := by simpa using hl0
            have hb := bounds_run (P := P) (w := w) false n n (boundK_run C hl hc1) (boundK_run C hh hc2) (Nat.zero_le _) hle
            refine ⟨.slice (some ⟨(ρ i).b, (ρ i).o + off, none⟩) u n, ?_, fun _ => rfl, by simpa [AV.names, L.names] using hin⟩
            simp [execOp, Instr.sliceAt, Instr.sureAddr, run_underlying hu, hev, hb, sizeOf_run hi', addr_add]
          · cases e
        · cases e
      · cases e
    · rename_i i n hx
      obtain ⟨hev, hin⟩ := ev_rsl C hx
      split at e
      · rename_i el hu
        split at e
        · rename_i inf c1 l hi' hl
          simp only [Option.some.injEq, Prod.mk.injEq] at e
          obtain ⟨rfl, rfl⟩ := e
          obtain ⟨hc1, hle⟩ := bothC_holds hc
          replace hle : l ≤ n := hle
          refine ⟨hin, fun blk hb c v hbv hcc => ?_⟩
          cases blk with
          | row T' z' n' f =>
            dsimp only at hbv
            split at hbv
            · rename_i hz
              simp only [Option.some.injEq, Prod.mk.injEq] at hbv
              obtain ⟨rfl, rfl⟩ := hbv
              obtain rfl : z' = inf.size := by simpa using hz
              have hln : n ≤ n' := hcc
              obtain ⟨cs, hw, hq, hsz, hnc, -, hseg⟩ := C.heap i _ hb
              have hbd := bounds_run (P := P) (w := w) true n (ρ i).c (boundK_run C hl hc1) (Or.inl ⟨rfl, rfl⟩) hle (Nat.le_trans hln hnc)
              refine ⟨_, ?_, fun _ => rfl, by simpa [AV.names, L.names] using hin⟩
              by_cases hcl : (ρ i).c = l
              · rw [hcl] at hev hbd
                simp [execOp, Instr.sliceAt, Instr.slice, run_underlying hu, hev, hbd, sizeOf_run hi', addr_add, gL, hcl]
              · simp [execOp, Instr.sliceAt, Instr.slice, run_underlying hu, hev, hbd, sizeOf_run hi', addr_add, gL, hcl, Nat.mul_comm]
            · cases hbv
          | _ => simp at hbv
        · cases e
      · cases e
    · rename_i i z k n hx
      obtain ⟨hev, hin⟩ := ev_rsc C hx
      split at e
      · rename_i el hu
        split at e
        · rename_i inf c1 l hi' hl
          simp only [Option.some.injEq, Prod.mk.injEq] at e
          obtain ⟨rfl, rfl⟩ := e
          obtain ⟨hc1, hle⟩ := bothC_holds hc
          replace hle : l < n := hle
          refine ⟨hin, fun blk hb c v hbv hcc => ?_⟩
          cases blk with
          | row T' z' n' f =>
            dsimp only at hbv
            split at hbv
            · rename_i hz
              simp only [Option.some.injEq, Prod.mk.injEq] at hbv
              obtain ⟨rfl, rfl⟩ := hbv
              obtain rfl : z = inf.size := by simpa using hz
              have hln : k + n ≤ n' := hcc
              obtain ⟨cs, hw, hq, hsz, hnc, -, hseg⟩ := C.heap i _ hb
              have hbd := bounds_run (P := P) (w := w) true n ((ρ i).c - k) (boundK_run C hl hc1) (Or.inl ⟨rfl, rfl⟩) (Nat.le_of_lt hle) (by omega)
              refine ⟨_, ?_, fun _ => rfl, by simpa [AV.names, L.names] using hin⟩
              have h1 : ¬ (ρ i).c = k := by omega
              have h2 : ¬ (ρ i).c - k = l := by omega
              have h3 : ¬ (ρ i).c = k + l := by omega
              rw [if_neg h1] at hev
              simp [execOp, Instr.sliceAt, Instr.slice, run_underlying hu, hev, hbd, sizeOf_run hi', addr_add, gL, h2, h3, Nat.mul_add, Nat.add_assoc, Nat.mul_comm, Nat.sub_sub]
            · cases hbv
          | _ => simp at hbv
        · cases e
      · cases e
    · rename_i i off n cap hx
      obtain ⟨hev, hin⟩ := ev_slc C hx
      split at e
      · rename_i el hu
        split at e
        · rename_i inf c1 l hi' hl
          simp only [Option.some.injEq, Prod.mk.injEq] at e
          obtain ⟨rfl, rfl⟩ := e
          obtain ⟨hc1, hle⟩ := bothC_holds hc
          have hbd := bounds_run (P := P) (w := w) true n cap (boundK_run C hl hc1) (Or.inl ⟨rfl, rfl⟩) hle.1 hle.2
          refine ⟨_, ?_, fun _ => rfl, by simpa [AV.names, L.names] using hin⟩
          cases hb : Nat.beq l cap with
          | true =>
            obtain rfl : l = cap := Nat.eq_of_beq_eq_true hb
            simp [execOp, Instr.sliceAt, Instr.slice, run_underlying hu, hev, hbd, sizeOf_run hi', addr_add, gL]
          | false =>
            have h2 : ¬ cap = l := fun h => by rw [h, Nat.beq_refl] at hb; cases hb
            simp [execOp, Instr.sliceAt, Instr.slice, run_underlying hu, hev, hbd, sizeOf_run hi', addr_add, gL, h2, Nat.add_assoc, Nat.mul_comm]
        · cases e
      · cases e
    · cases e
theorem relVs_nth : ∀ {vs : List (Bool × List L)} {us : List Value} (k : Nat), RelVs ρ vs us →
    (∀ ls, vs[k]? = some (true, ls) → ∃ u, us[k]? = some u ∧ RelA ρ (.agg ls) u) ∧ (∀ l, vs[k]? = some (false, [l]) → ∃ u, us[k]? = some u ∧ RelL ρ l u)
  | [], [], k, _ => by simp
  | (true, ls) :: r, u :: us, 0, hr => ⟨fun ls' e => by simp at e; subst e; exact ⟨u, rfl, hr.1⟩, fun l e => by simp at e⟩
  | (true, ls) :: r, u :: us, k + 1, hr => by simpa using relVs_nth k hr.2
  | (false, [l]) :: r, u :: us, 0, hr => ⟨fun ls' e => by simp at e, fun l e => by simp at e; subst e; exact ⟨u, rfl, hr.1⟩⟩
  | (false, [l]) :: r, u :: us, k + 1, hr => by simpa using relVs_nth k hr.2
  | [], _ :: _, _, hr => hr.elim
  | (true, _) :: _, [], _, hr => hr.elim
  | (false, []) :: _, _, _, hr => by cases ‹List Value› <;> exact hr.elim
  | (false, _ :: _ :: _) :: _, _, _, hr => by cases ‹List Value› <;> exact hr.elim
  | (false, [_]) :: _, [], _, hr => hr.elim
theorem vnames_mem {m : Nat} : ∀ {vs : List (Bool × List L)} {k : Nat} {b : Bool} {ls : List L}, vs[k]? = some (b, ls) → m ∈ lnames ls → m ∈ vnames vs
  | [], k, _, _, e, _ => by simp at e
  | (b', ls') :: r, 0, b, ls, e, hm => by simp at e; obtain ⟨rfl, rfl⟩ := e; simp [vnames, hm]
  | (b', ls') :: r, k + 1, b, ls, e, hm => by simp at e; simp [vnames, vnames_mem e hm]
theorem ok_extract (C : Ctx ρ t h a w) {dst : Option Tmp} {x : Operand} {k : Nat} {ty : TypeId} {pos : String} {after : Array Edge} {gu : Option (Nat × Bool)} {c : Cond} {r : Req}
    (e : req P (.extract x k) t = some (c, r)) : ReqOK P ρ h a w ⟨dst, .extract x k, ty, pos, after, gu⟩ r := by
  simp only [req] at e
  split at e
  · rename_i vs hx
    have h1 := ev_rel C x
    have h2 := ev_names C x
    rw [hx] at h1 h2
    obtain ⟨cs, hev, hr⟩ := h1
    have hn := relVs_nth k hr
    split at e
    · rename_i ls hk
      rw [nth_eq] at hk
      simp only [Option.some.injEq, Prod.mk.injEq] at e
      obtain ⟨-, rfl⟩ := e
      obtain ⟨u, hu, hu'⟩ := hn.1 ls hk
      have hu2 : cs[k]? = some u := by simpa using hu
      exact ⟨u, by simp [execOp, Instr.extract, hev, hu2], hu', fun m hm => h2 m (vnames_mem hk hm)⟩
    · rename_i l hk
      rw [nth_eq] at hk
      simp only [Option.some.injEq, Prod.mk.injEq] at e
      obtain ⟨-, rfl⟩ := e
      obtain ⟨u, hu, hu'⟩ := hn.2 l hk
      have hu2 : cs[k]? = some u := by simpa using hu
      exact ⟨u, by simp [execOp, Instr.extract, hev, hu2], hu', fun m hm => h2 m (vnames_mem hk (by simpa [lnames, AV.names] using hm))⟩
    · cases e
  · cases e
/-- Cells that are stored. -/
theorem store_cells {g : Nat} {T' : TypeId} {cs : Array Value} (hc : w.heap[g]? = some (.cells cs T' (0, 0))) {T : TypeId} {inf : TypeInfo} (hi : P.info? T = some inf) {v : Value} (hs : v.cells.size = inf.size)
    (h1 : ∀ u ∈ v.cells.toList, u.oneCell' = true) {off : Nat} (hle : off + v.cells.size ≤ cs.size) :
    ∃ cs' : Array Value, (storeVar T ⟨g, off, none⟩ v).run P w = .ok () (w.setRow g cs') ∧ cs'.toList = cs.toList.take off ++ v.cells.toList ++ cs.toList.drop (off + v.cells.toList.length) := by
  refine ⟨(cs.toList.take off ++ v.cells.toList ++ cs.toList.drop (off + v.cells.size)).toArray, ?_, by simp⟩
  have hrow := run_storeCells_at (P := P) g off T' v.cells.toList 0 cs w hc (by simpa using hle) h1
  have hn : ¬ v.cells.size ≠ inf.size := by simpa using hs
  simp only [storeVar]
  simp only [Sem.run_bind, Sem.run_pure, Result.andThen_ok, sizeOf_run hi]
  rw [if_neg hn]
  simpa using hrow
theorem ok_store (C : Ctx ρ t h a w) {dst : Option Tmp} {T : TypeId} {x y : Operand} {ty : TypeId} {pos : String} {after : Array Edge} {gu : Option (Nat × Bool)} {c : Cond} {r : Req}
    (e : req P (.store T x y) t = some (c, r)) (hcond : c.holds) : ReqOK P ρ h a w ⟨dst, .store T x y, ty, pos, after, gu⟩ r := by
  simp only [req] at e
  split at e
  · rename_i i off hx
    obtain ⟨hev, hin⟩ := ev_ptr C hx
    split at e
    · rename_i vs hvs
      have hrv := rel_ls (ev_rel C y) hvs
      split at e
      · rename_i inf hok hsz hi
        simp only [Option.some.injEq, Prod.mk.injEq] at e
        obtain ⟨-, rfl⟩ := e
        refine ⟨hin, fun b hb c' b' hb' _ => ?_⟩
        cases b with
        | cells T' ls =>
          obtain ⟨cs, hc, h0, hr⟩ := C.heap i _ hb
          dsimp only at hb'
          split at hb'
          · rename_i ls' hset
            simp only [Option.some.injEq, Prod.mk.injEq] at hb'
            obtain ⟨-, rfl⟩ := hb'
            have hlv := relLs_len hrv
            obtain ⟨h3, h4⟩ := relLs_setLs off hset hr hrv
            have hsz' : wids vs = P.cellsOf T := by simpa using hsz
            have hcl : (a.eval y).cells.size = inf.size := by
              have : P.cellsOf T = inf.size := by simp [Program.cellsOf, hi]
              simp at hlv; omega
            obtain ⟨cs', hrow, hcs'⟩ := store_cells (P := P) hc hi hcl (okLs_one hrv hok) (off := off) (by simpa using h4)
            refine ⟨w.setRow (ρ i).b cs', ?_, setRow_turned _ _ _, ⟨cs', setRow_heap _ _ _ _ _ _ hc, h0, ?_⟩, ⟨rfl, rfl⟩, ?_⟩
            · simp only [execOp, Instr.storeAt, hev, Instr.sureAddr, h0, Nat.zero_add]
              simp only [Sem.run_bind, Sem.run_pure, Result.andThen_ok, hrow]
            · rw [hcs']; exact h3
            · intro m hm
              rcases setLs_names off hset hm with hm | hm
              · exact C.namesH i _ hb m hm
              · rw [ls_names hvs] at hm; exact ev_names C y m hm
          · cases hb'
        | _ => simp at hb'
      · cases e
    · cases e
  · rename_i i o z k p hx
    obtain ⟨hev, hin⟩ := ev_rptr C hx
    split at e
    · rename_i vs hvs
      have hrv := rel_ls (ev_rel C y) hvs
      split at e
      · rename_i inf hok hsz hi
        simp only [Option.some.injEq, Prod.mk.injEq] at e
        obtain ⟨-, rfl⟩ := e
        have hlv := relLs_len hrv
        have hsz' : wids vs = P.cellsOf T := by simpa using hsz
        have hcl : (a.eval y).cells.size = inf.size := by
          have : P.cellsOf T = inf.size := by simp [Program.cellsOf, hi]
          simp at hlv; omega
        refine ⟨hin, fun b hb c' b' hb' hcc => ?_⟩
        cases b with
        | cells T' ls =>
          obtain ⟨cs, hc, h0, hr⟩ := C.heap i _ hb
          dsimp only at hb'
          split at hb'
          · rename_i d ls' hset
            simp only [Option.some.injEq, Prod.mk.injEq] at hb'
            obtain ⟨rfl, rfl⟩ := hb'
            obtain ⟨h3, h4⟩ := relLs_wrR hrv o hset hcc hr
            obtain ⟨cs', hrow, hcs'⟩ := store_cells (P := P) hc hi hcl (okLs_one hrv hok) (off := o + (z * k + p)) (by simpa using h4)
            refine ⟨w.setRow (ρ i).b cs', ?_, setRow_turned _ _ _, ⟨cs', setRow_heap _ _ _ _ _ _ hc, h0, ?_⟩, ⟨rfl, rfl⟩, ?_⟩
            · simp only [execOp, Instr.storeAt, hev, Instr.sureAddr, h0, Nat.zero_add]
              simp only [Sem.run_bind, Sem.run_pure, Result.andThen_ok, hrow]
            · rw [hcs']; exact h3
            · intro m hm
              rcases wrR_names o hset hm with hm | hm
              · exact C.namesH i _ hb m hm
              · rw [ls_names hvs] at hm; exact ev_names C y m hm
          · cases hb'
        | row T' z' n f =>
          obtain ⟨cs, hc, h0, hcs, hnc, hcm, hseg⟩ := C.heap i _ hb
          dsimp only at hb'
          split at hb'
          · rename_i ho
            have ho' : o = 0 := by simpa using ho
            subst ho'
            split at hb'
            · rename_i hzz
              have hzz' : z = z' := by simpa using hzz
              subst hzz'
              split at hb'
              · rename_i ps hps
                split at hb'
                · rename_i hfit
                  have hfit' : p + ps.length ≤ z := by simpa using hfit
                  simp only [Option.some.injEq, Prod.mk.injEq] at hb'
                  obtain ⟨rfl, rfl⟩ := hb'
                  have hk : k < n := hcc
                  have hu := toPLs_rel hps hrv
                  have hul : (a.eval y).cells.size = ps.length := by
                    have := congrArg List.length hu
                    simpa using this
                  have hb1 := mul_lt_of (z := z) hk
                  have hb2 : z * n ≤ z * (ρ i).c := Nat.mul_le_mul_left z hnc
                  obtain ⟨cs', hrow, hcs'⟩ := store_cells (P := P) hc hi hcl (okLs_one hrv hok) (off := z * k + p) (by omega)
                  have hup := hseg.upd hk hfit'
                  rw [← hu, List.take_take, Nat.min_eq_left (by omega), List.drop_take] at hup
                  refine ⟨w.setRow (ρ i).b cs', ?_, setRow_turned _ _ _, ⟨cs', setRow_heap _ _ _ _ _ _ hc, h0, ?_, hnc, hcm, ?_⟩, ⟨rfl, rfl⟩, by simp [Blk.names]⟩
                  · simp only [execOp, Instr.storeAt, hev, Instr.sureAddr, h0, Nat.zero_add]
                    simp only [Sem.run_bind, Sem.run_pure, Result.andThen_ok, hrow]
                  · have := congrArg List.length hcs'
                    simp at this; omega
                  · have e2 : cs'.toList.take (z * n) =
                        cs.toList.take (z * k + p) ++ (a.eval y).cells.toList ++ (cs.toList.drop (z * k + p + ps.length)).take (z * n - (z * k + p + ps.length)) := by
                      rw [hcs', Array.length_toList, hul, List.take_append, List.take_of_length_le (by simp; omega)]
                      congr 2
                      simp; omega
                    rw [e2]
                    exact hup
                · cases hb'
              · cases hb'
            · cases hb'
          · cases hb'
        | _ => simp at hb'
      · cases e
    · cases e
  · rename_i i off n k hx
    obtain ⟨hev, hin⟩ := ev_eptr C hx
    split at e
    · rename_i s v hy
      have hyv := ev_rel C y
      rw [hy] at hyv
      have hyv := hyv (by simp)
      split at e
      · rename_i inf hsz hi
        simp only [Option.some.injEq, Prod.mk.injEq] at e
        obtain ⟨rfl, rfl⟩ := e
        have hk : k < n := hcond
        refine ⟨hin, fun b hb c' b' hb' _ => ?_⟩
        cases b with
        | cells T' ls =>
          obtain ⟨cs, hc, h0, hr⟩ := C.heap i _ hb
          dsimp only at hb'
          split at hb'
          · rename_i r ht
            split at hb'
            · rename_i r' hu
              split at hb'
              · rename_i ls' hset
                simp only [Option.some.injEq, Prod.mk.injEq] at hb'
                obtain ⟨-, rfl⟩ := hb'
                have ⟨h1, h2⟩ := relLs_take _ ht (relLs_drop off hr)
                have h3 := updL_rel hu h1
                rw [if_pos (Nat.zero_le _), Nat.sub_zero] at h3
                obtain ⟨h4, h5⟩ := relLs_setLs off hset hr h3
                have hV : (a.eval y).cells = #[a.eval y] := by rw [hyv]; rfl
                have hone : ∀ u ∈ (a.eval y).cells.toList, u.oneCell' = true := by
                  intro u hu
                  rw [hV] at hu
                  obtain rfl := List.mem_singleton.1 hu
                  rw [hyv]; rfl
                simp only [List.length_set, List.length_take, List.length_drop] at h2 h5
                have hcl : (a.eval y).cells.size = inf.size := by
                  have : P.cellsOf T = inf.size := by simp [Program.cellsOf, hi]
                  have hs' : 1 = P.cellsOf T := by simpa using hsz
                  rw [hV]; simp; omega
                obtain ⟨cs', hrow, hcs'⟩ := store_cells (P := P) hc hi hcl hone (off := off + k) (by rw [hV]; simp at h2 ⊢; omega)
                have hlist : cs'.toList =
                    cs.toList.take off ++ ((cs.toList.drop off).take n).set k (.int (k64 s) (vI s v)) ++ cs.toList.drop (off + (((cs.toList.drop off).take n).set k (.int (k64 s) (vI s v))).length) := by
                  have hy' : a.eval y = .int (k64 s) (vI s v) := hyv
                  rw [hcs', hV, hy']
                  generalize Value.int (k64 s) (vI s v) = V
                  have hoff : off + n ≤ cs.toList.length := by simp at h2 ⊢; omega
                  generalize cs.toList = l at hoff
                  have hA : (l.take off).length = off := by simp; omega
                  have hB : ((l.drop off).take n).length = n := by simp; omega
                  have hsplit : l = l.take off ++ ((l.drop off).take n ++ l.drop (off + n)) := by
                    rw [← List.drop_drop, List.take_append_drop, List.take_append_drop]
                  have e1 : l.set (off + k) V = l.take off ++ (((l.drop off).take n).set k V ++ l.drop (off + n)) := by
                    conv => lhs; rw [hsplit]
                    rw [List.set_append_right _ _ (by rw [hA]; omega), hA, show off + k - off = k by omega, List.set_append_left _ _ (by rw [hB]; exact hk)]
                  have e2 : l.set (off + k) V = l.take (off + k) ++ V :: l.drop (off + k + 1) := by
                    rw [List.set_eq_take_append_cons_drop, if_pos (by omega)]
                  rw [List.length_set, hB, List.append_assoc, List.append_assoc, ← e1, e2]
                  rfl
                refine ⟨w.setRow (ρ i).b cs', ?_, setRow_turned _ _ _, ⟨cs', setRow_heap _ _ _ _ _ _ hc, h0, ?_⟩, ⟨rfl, rfl⟩, ?_⟩
                · simp only [execOp, Instr.storeAt, hev, Instr.sureAddr, h0, Nat.zero_add]
                  simp only [Sem.run_bind, Sem.run_pure, Result.andThen_ok, hrow]
                · rw [hlist]
                  exact h4
                · intro m hm
                  rcases setLs_names off hset hm with hm | hm
                  · exact C.namesH i _ hb m hm
                  · rw [updL_names hu] at hm; simp at hm
              · cases hb'
            · cases hb'
          · cases hb'
        | _ => simp at hb'
      · cases e
    · cases e
  · cases e
end
end Go.Ep
