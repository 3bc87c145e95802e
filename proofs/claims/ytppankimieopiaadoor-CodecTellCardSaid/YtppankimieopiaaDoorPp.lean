/-
  Closed runs: an evaluator without letters, that decides each way by reckoning; what it answers the evaluator with letters shows. Conditions: as typed.
-/
import Derived.Test.YtppankimieopiaaDoorPl
namespace Go.Ep
open Go.RowKit
set_option linter.unusedVariables false
set_option linter.unusedSimpArgs false

/-- Is a condition so? Reckoned; what cannot be reckoned is none. -/
def decC : Cond → Bool
  | .t => true
  | .p h d => match d with
    | some i => @decide h i
    | none => false
theorem decC_ok {c : Cond} (h : decC c = true) : c.holds := by
  cases c with
  | t => trivial
  | p x d =>
    cases d with
    | none => cases h
    | some i => exact @of_decide_eq_true x i h
abbrev Z (β : Type) := Except String β
/-- Which function it was. -/
def callE (_ : Nat) : String := "call"

/-! Numbers are reckoned to the end before one goes on. -/
section
variable {α : Sort _}
noncomputable def zN (n : Nat) (k : Nat → α) : α := Nat.rec (motive := fun _ => α) (k 0) (fun m _ => k (m + 1)) n
theorem zN_eq (n : Nat) (k : Nat → α) : zN n k = k n := by cases n <;> rfl
noncomputable def zW {w : Nat} (x : BitVec w) (k : BitVec w → α) : α := zN x.toNat fun n => k (BitVec.ofNat w n)
theorem zW_eq {w : Nat} (x : BitVec w) (k : BitVec w → α) : zW x k = k x := by rw [zW, zN_eq, BitVec.ofNat_toNat, BitVec.setWidth_eq]
noncomputable def zO (b : Bool) (k : Bool → α) : α := match b with
  | true => k true
  | false => k false
theorem zO_eq (b : Bool) (k : Bool → α) : zO b k = k b := by cases b <;> rfl
noncomputable def zU (l : List UInt8) : (List UInt8 → α) → α :=
  List.rec (motive := fun _ => (List UInt8 → α) → α) (fun k => k []) (fun x _ ih k => zN x.toNat fun n => ih fun xs => k (UInt8.ofNat n :: xs)) l
theorem zU_eq : ∀ (l : List UInt8) (k : List UInt8 → α), zU l k = k l
  | [], _ => rfl
  | x :: l, k => by
    show zN x.toNat (fun n => zU l fun xs => k (UInt8.ofNat n :: xs)) = _
    rw [zN_eq, zU_eq l]
    simp
noncomputable def zStr (s : ByteArray) (k : ByteArray → α) : α := zU s.data.toList fun l => k ⟨⟨l⟩⟩
theorem zStr_eq (s : ByteArray) (k : ByteArray → α) : zStr s k = k s := by rw [zStr, zU_eq]
noncomputable def zPL (p : PL) (k : PL → α) : α := match p with
  | .b64 s x => zW x fun x => k (.b64 s x)
  | .b32 s x => zW x fun x => k (.b32 s x)
  | .b16 s x => zW x fun x => k (.b16 s x)
  | .b8 s x => zW x fun x => k (.b8 s x)
  | .bool b => zO b fun b => k (.bool b)
  | .str s => zStr s fun s => k (.str s)
theorem zPL_eq (p : PL) (k : PL → α) : zPL p k = k p := by cases p <;> simp [zPL, zW_eq, zO_eq, zStr_eq]
noncomputable def zPLs (l : List PL) : (List PL → α) → α :=
  List.rec (motive := fun _ => (List PL → α) → α) (fun k => k []) (fun x _ ih k => zPL x fun x => ih fun xs => k (x :: xs)) l
theorem zPLs_eq : ∀ (l : List PL) (k : List PL → α), zPLs l k = k l
  | [], _ => rfl
  | x :: l, k => by
    show zPL x (fun x => zPLs l fun xs => k (x :: xs)) = _
    rw [zPL_eq, zPLs_eq l]
noncomputable def zRows (f : Nat → List PL) (n : Nat) : Nat → (List (List PL) → α) → α :=
  Nat.rec (motive := fun _ => Nat → (List (List PL) → α) → α) (fun _ k => k []) (fun _ ih i k => zPLs (f i) fun x => zN (i + 1) fun j => ih j fun r => k (x :: r)) n
theorem zRows_eq (f : Nat → List PL) : ∀ (n i : Nat) (k : List (List PL) → α), zRows f n i k = k ((List.range' i n).map f)
  | 0, _, _ => rfl
  | n + 1, i, k => by
    show zPLs (f i) (fun x => zN (i + 1) fun j => zRows f n j fun r => k (x :: r)) = _
    rw [zPLs_eq, zN_eq, zRows_eq f n]
    simp [List.range'_succ]
noncomputable def nthZ (l : List (List PL)) : Nat → Option (List PL) :=
  List.rec (motive := fun _ => Nat → Option (List PL)) (fun _ => none) (fun x _ ih n => match n with
    | 0 => some x
    | m + 1 => ih m) l
theorem nthZ_eq : ∀ (l : List (List PL)) (n : Nat), nthZ l n = l[n]?
  | [], _ => rfl
  | _ :: _, 0 => rfl
  | _ :: l, n + 1 => by
    show nthZ l n = _
    rw [nthZ_eq l n]; rfl
/-- A function by its first values. -/
noncomputable def tabFn (l : List (List PL)) (f : Nat → List PL) : Nat → List PL := fun j => match nthZ l j with
  | some x => x
  | none => f j
theorem tabFn_eq (f : Nat → List PL) (n : Nat) : tabFn ((List.range' 0 n).map f) f = f := by
  funext j
  unfold tabFn
  rw [nthZ_eq]
  by_cases h : j < n
  · simp [List.getElem?_map, List.getElem?_range', h]
  · simp [List.getElem?_map, List.getElem?_range', h]
noncomputable def zSeg (n : Nat) (f : Nat → List PL) (k : (Nat → List PL) → α) : α := zRows f n 0 fun l => k (tabFn l f)
theorem zSeg_eq (n : Nat) (f : Nat → List PL) (k : (Nat → List PL) → α) : zSeg n f k = k f := by rw [zSeg, zRows_eq, tabFn_eq]
noncomputable def zCaps (l : List (Nat × Nat)) : (List (Nat × Nat) → α) → α :=
  List.rec (motive := fun _ => (List (Nat × Nat) → α) → α) (fun k => k []) (fun p _ ih k => zN p.1 fun i => zN p.2 fun o => ih fun r => k ((i, o) :: r)) l
theorem zCaps_eq : ∀ (l : List (Nat × Nat)) (k : List (Nat × Nat) → α), zCaps l k = k l
  | [], _ => rfl
  | p :: l, k => by
    show zN p.1 (fun i => zN p.2 fun o => zCaps l fun r => k ((i, o) :: r)) = _
    rw [zN_eq, zN_eq, zCaps_eq l]
noncomputable def zL (l : L) (k : L → α) : α := match l with
  | .b64 s x => zW x fun x => k (.b64 s x)
  | .b32 s x => zW x fun x => k (.b32 s x)
  | .b16 s x => zW x fun x => k (.b16 s x)
  | .b8 s x => zW x fun x => k (.b8 s x)
  | .bool b => zO b fun b => k (.bool b)
  | .str s => zStr s fun s => k (.str s)
  | .ptr i o => zN i fun i => zN o fun o => k (.ptr i o)
  | .eptr i o n j => zN i fun i => zN o fun o => zN n fun n => zN j fun j => k (.eptr i o n j)
  | .slc i o l c => zN i fun i => zN o fun o => zN l fun l => zN c fun c => k (.slc i o l c)
  | .gmap g b => k (.gmap g b)
  | .clo f c => zN f fun f => zCaps c fun c => k (.clo f c)
  | .raw v => k (.raw v)
  | .rptr i o z j p => zN i fun i => zN o fun o => zN z fun z => zN j fun j => zN p fun p => k (.rptr i o z j p)
  | .rsl i n => zN i fun i => zN n fun n => k (.rsl i n)
  | .rsc i z j n => zN i fun i => zN z fun z => zN j fun j => zN n fun n => k (.rsc i z j n)
  | .imap i => zN i fun i => k (.imap i)
  | .seg z n f => zN z fun z => zN n fun n => k (.seg z n f)
  | .junk => k .junk
theorem zL_eq (l : L) (k : L → α) : zL l k = k l := by cases l <;> simp [zL, zW_eq, zO_eq, zStr_eq, zN_eq, zCaps_eq, zSeg_eq]
noncomputable def zLs (l : List L) : (List L → α) → α :=
  List.rec (motive := fun _ => (List L → α) → α) (fun k => k []) (fun l _ ih k => zL l fun l => ih fun ls => k (l :: ls)) l
theorem zLs_eq : ∀ (l : List L) (k : List L → α), zLs l k = k l
  | [], _ => rfl
  | x :: l, k => by
    show zL x (fun x => zLs l fun ls => k (x :: ls)) = _
    rw [zL_eq, zLs_eq l]
noncomputable def zVs (l : List (Bool × List L)) : (List (Bool × List L) → α) → α :=
  List.rec (motive := fun _ => (List (Bool × List L) → α) → α) (fun k => k []) (fun p _ ih k => zO p.1 fun b => zLs p.2 fun l => ih fun ls => k ((b, l) :: ls)) l
theorem zVs_eq : ∀ (l : List (Bool × List L)) (k : List (Bool × List L) → α), zVs l k = k l
  | [], _ => rfl
  | p :: l, k => by
    show zO p.1 (fun b => zLs p.2 fun x => zVs l fun ls => k ((b, x) :: ls)) = _
    rw [zO_eq, zLs_eq, zVs_eq l]
noncomputable def zA (v : AV) (k : AV → α) : α := match v with
  | .one l => zL l fun l => k (.one l)
  | .agg ls => zLs ls fun ls => k (.agg ls)
  | .tup vs => zVs vs fun vs => k (.tup vs)
theorem zA_eq (v : AV) (k : AV → α) : zA v k = k v := by cases v <;> simp [zA, zL_eq, zLs_eq, zVs_eq]
noncomputable def zAs (l : List AV) : (List AV → α) → α :=
  List.rec (motive := fun _ => (List AV → α) → α) (fun k => k []) (fun v _ ih k => zA v fun v => ih fun vs => k (v :: vs)) l
theorem zAs_eq : ∀ (l : List AV) (k : List AV → α), zAs l k = k l
  | [], _ => rfl
  | x :: l, k => by
    show zA x (fun x => zAs l fun ls => k (x :: ls)) = _
    rw [zA_eq, zAs_eq l]
noncomputable def zEs (l : List (BitVec 64 × BitVec 64)) : (List (BitVec 64 × BitVec 64) → α) → α :=
  List.rec (motive := fun _ => (List (BitVec 64 × BitVec 64) → α) → α) (fun k => k []) (fun p _ ih k => zW p.1 fun x => zW p.2 fun y => ih fun r => k ((x, y) :: r)) l
theorem zEs_eq : ∀ (l : List (BitVec 64 × BitVec 64)) (k : List (BitVec 64 × BitVec 64) → α), zEs l k = k l
  | [], _ => rfl
  | p :: l, k => by
    show zW p.1 (fun x => zW p.2 fun y => zEs l fun r => k ((x, y) :: r)) = _
    rw [zW_eq, zW_eq, zEs_eq l]
/-- Cells of a block: with their rows. -/
noncomputable def zC (l : L) (k : L → α) : α := match l with
  | .seg z n f => zN z fun z => zN n fun n => zSeg n f fun f => k (.seg z n f)
  | l => zL l k
theorem zC_eq (l : L) (k : L → α) : zC l k = k l := by cases l <;> simp [zC, zL_eq, zN_eq, zSeg_eq]
noncomputable def zCs (l : List L) : (List L → α) → α :=
  List.rec (motive := fun _ => (List L → α) → α) (fun k => k []) (fun l _ ih k => zC l fun l => ih fun ls => k (l :: ls)) l
theorem zCs_eq : ∀ (l : List L) (k : List L → α), zCs l k = k l
  | [], _ => rfl
  | x :: l, k => by
    show zC x (fun x => zCs l fun ls => k (x :: ls)) = _
    rw [zC_eq, zCs_eq l]
noncomputable def zB (b : Blk) (k : Blk → α) : α := match b with
  | .cells T ls => zCs ls fun ls => k (.cells T ls)
  | .ro T ls => zCs ls fun ls => k (.ro T ls)
  | .row T z n f => zN z fun z => zN n fun n => zSeg n f fun f => k (.row T z n f)
  | .imap es => zEs es fun es => k (.imap es)
  | .romap es => zEs es fun es => k (.romap es)
theorem zB_eq (b : Blk) (k : Blk → α) : zB b k = k b := by cases b <;> simp [zB, zCs_eq, zN_eq, zSeg_eq, zEs_eq]
end

/-- What functions answer, what package variables hold; the names of this function's blocks. -/
structure ZT where
  fn : FuncId → List AV → List (Nat × Blk) → Option (Cond × AV)
  glob : TypeId → Nat → Nat → Option AV
  look : TypeId → Bool → Nat → Nat → AV → Option (Cond × AV)
  nm : Nat
  tp : Nat
  im : List Nat
  mkr : FuncId → List AV → List (Nat × Blk) → Option (Cond × Blk × NewV)
  mks : List Nat
abbrev Inl (β : Type) := FuncId → Nat → List AV → List (Nat × Blk) → (AV → List (Nat × Blk) → Z β) → Z β
abbrev InlP := FuncId → Nat → List AV → List (Nat × Blk) → (AV → List (Nat × Blk) → Prop) → Prop
abbrev ZT.tab (t : ZT) (i : InlP) (ap : Ap) : Table := ⟨t.fn, t.glob, t.look, i, ap, t.nm, t.tp, t.im, t.mkr, t.mks⟩
def ZT.set (t : ZT) (nm tp : Nat) : ZT := ⟨t.fn, t.glob, t.look, nm, tp, t.im, t.mkr, t.mks⟩
def ZT.no (t : ZT) : ZT := ⟨t.fn, t.glob, t.look, t.nm, t.tp, [], t.mkr, t.mks⟩
def ZT.still (t : ZT) : ZT := ⟨fun _ _ _ => none, t.glob, t.look, t.nm, t.tp, [], fun _ _ _ => none, []⟩
variable {β : Type}
noncomputable def putZ (s : S) (dst : Option Nat) (v : AV) (k : S → Z β) : Z β := match dst with
  | some d => zA v fun v => setK s.t d v fun t => k ⟨t, s.h⟩
  | none => k s
theorem putZ_of {s : S} {dst : Option Nat} {v : AV} {k : S → Z β} {r : β} {K : S → Prop} (hK : ∀ s, k s = .ok r → K s) (h : putZ s dst v k = .ok r) : putK s dst v K := by
  cases dst with
  | none => exact hK _ h
  | some d =>
    simp only [putZ, zA_eq, setK_eq] at h
    simp only [putK, nxK_eq, forceA_eq, setK_eq]
    exact hK _ h
noncomputable def srcZ (x : Src) (h : List (Nat × Blk)) (k : Cond → (Nat → List PL) → Z β) : Z β := match x with
  | .here g => k .t g
  | .mem j f => match look h j with
    | some b => match f b with
      | some (c, g) => k c g
      | none => .error "src"
    | none => .error "src"
theorem srcZ_of {x : Src} {h : List (Nat × Blk)} {k : Cond → (Nat → List PL) → Z β} {r : β} {K : Cond → (Nat → List PL) → Prop} (hK : ∀ c g, k c g = .ok r → K c g) (e : srcZ x h k = .ok r) : srcK x h K := by
  cases x with
  | here g => exact hK _ _ e
  | mem j f =>
    simp only [srcZ] at e
    simp only [srcK]
    split at e
    · rename_i b hb
      split at e
      · rename_i c g hg
        rw [hb]; dsimp only; rw [hg]; exact hK _ _ e
      · cases e
    · cases e
noncomputable def condZ (c : Cond) (k : Z β) : Z β := match decC c with
  | true => k
  | false => .error "cond"
theorem condZ_of {c : Cond} {k : Z β} {r : β} (h : condZ c k = .ok r) : c.holds ∧ k = .ok r := by
  unfold condZ at h
  split at h
  · rename_i hc; exact ⟨decC_ok hc, h⟩
  · cases h
theorem withC_of {c : Cond} {q : Prop} (h : c.holds) (hq : q) : withC c q := by
  cases c with
  | t => exact hq
  | p x i => exact ⟨⟨h⟩, hq⟩
theorem cond_with {c : Cond} {k : Z β} {r : β} {q : Prop} (h : condZ c k = .ok r) (hq : k = .ok r → q) : withC c q := withC_of (condZ_of h).1 (hq (condZ_of h).2)
noncomputable def renZ (nm tp : Nat) (l : List Nat) : Nat → AV → List AV → List (Nat × Blk) → (AV → List AV → List (Nat × Blk) → Z β) → Z β :=
  List.rec (motive := fun _ => Nat → AV → List AV → List (Nat × Blk) → (AV → List AV → List (Nat × Blk) → Z β) → Z β) (fun _ v t h k => k v t h)
    (fun i _ ih d v t h k => withName nm d fun j => zN j fun j => match Nat.blt j tp, inNs j v.names with
      | true, false => purgeTK j t fun t => purgeHK j h fun h => renHK i j h fun h => zA (v.ren i j) fun v => ih (d + 1) v t h k
      | _, _ => .error "out") l
theorem purgeHK_cons {α : Sort _} (d j : Nat) (b : Blk) (r : List (Nat × Blk)) (k : List (Nat × Blk) → α) : purgeHK d ((j, b) :: r) k = (match Nat.beq j d with
    | true => purgeHK d r k
    | false => forceB (b.purge d) fun b => purgeHK d r fun r => k ((j, b) :: r)) := rfl
theorem renHK_cons {α : Sort _} (i j x : Nat) (b : Blk) (r : List (Nat × Blk)) (k : List (Nat × Blk) → α) : renHK i j ((x, b) :: r) k = (match Nat.beq x i with
    | true => renHK i j r fun r => k ((j, b) :: r)
    | false => renHK i j r fun r => k ((x, b) :: r)) := rfl
theorem cutHK_cons {α : Sort _} (b x : Nat) (c : Blk) (r : List (Nat × Blk)) (k : List (Nat × Blk) → α) : cutHK b ((x, c) :: r) k = (match Nat.blt x b with
    | true => cutHK b r fun r => k ((x, c) :: r)
    | false => cutHK b r k) := rfl
/-- What stands behind the forgetting of a name, whatever goes on. -/
def purgeL (d : Nat) : List (Nat × Blk) → List (Nat × Blk)
  | [] => []
  | (j, b) :: r => match Nat.beq j d with
    | true => purgeL d r
    | false => (j, b.purge d) :: purgeL d r
theorem purgeHK_L {α : Sort _} (d : Nat) : ∀ (l : List (Nat × Blk)) (k : List (Nat × Blk) → α), purgeHK d l k = k (purgeL d l)
  | [], k => rfl
  | (j, b) :: r, k => by
    rw [purgeHK_cons, purgeL]
    cases hj : Nat.beq j d with
    | true => exact purgeHK_L d r k
    | false => dsimp only; rw [forceB_eq, purgeHK_L d r]
def renL (i j : Nat) : List (Nat × Blk) → List (Nat × Blk)
  | [] => []
  | (x, b) :: r => match Nat.beq x i with
    | true => (j, b) :: renL i j r
    | false => (x, b) :: renL i j r
theorem renHK_L {α : Sort _} (i j : Nat) : ∀ (l : List (Nat × Blk)) (k : List (Nat × Blk) → α), renHK i j l k = k (renL i j l)
  | [], k => rfl
  | (x, b) :: r, k => by
    rw [renHK_cons, renL]
    cases hj : Nat.beq x i with
    | true => dsimp only; rw [renHK_L i j r]
    | false => dsimp only; rw [renHK_L i j r]
def cutL (b : Nat) : List (Nat × Blk) → List (Nat × Blk)
  | [] => []
  | (x, c) :: r => match Nat.blt x b with
    | true => (x, c) :: cutL b r
    | false => cutL b r
theorem cutHK_L {α : Sort _} (b : Nat) : ∀ (l : List (Nat × Blk)) (k : List (Nat × Blk) → α), cutHK b l k = k (cutL b l)
  | [], k => rfl
  | (x, c) :: r, k => by
    rw [cutHK_cons, cutL]
    cases hj : Nat.blt x b with
    | true => dsimp only; rw [cutHK_L b r]
    | false => exact cutHK_L b r k
def setL' : List (Nat × Blk) → Nat → Blk → List (Nat × Blk)
  | [], _, _ => []
  | (j, c) :: r, i, b => match Nat.beq j i with
    | true => (j, b) :: r
    | false => (j, c) :: setL' r i b
theorem setB_cons' {α : Sort _} (j : Nat) (b : Blk) (r : List (Nat × Blk)) (i : Nat) (b' : Blk) (k : List (Nat × Blk) → α) : setB ((j, b) :: r) i b' k = (match Nat.beq j i with
    | true => k ((j, b') :: r)
    | false => setB r i b' fun r => k ((j, b) :: r)) := rfl
theorem setB_L {α : Sort _} : ∀ (l : List (Nat × Blk)) (i : Nat) (b : Blk) (k : List (Nat × Blk) → α), setB l i b k = k (setL' l i b)
  | [], _, _, _ => rfl
  | (j, c) :: r, i, b, k => by
    rw [setB_cons', setL']
    cases hj : Nat.beq j i with
    | true => rfl
    | false => dsimp only; rw [setB_L r]
theorem renZ_of {nm tp : Nat} {r : β} {K : AV → List AV → List (Nat × Blk) → Prop} : ∀ {l : List Nat} {d : Nat} {v : AV} {t : List AV} {h : List (Nat × Blk)} {k : AV → List AV → List (Nat × Blk) → Z β}, (∀ v t h, k v t h = .ok r → K v t h) → renZ nm tp l d v t h k = .ok r → renK nm tp l d v t h K
  | [], d, v, t, h, k, hK, e => hK _ _ _ e
  | i :: l, d, v, t, h, k, hK, e => by
    have e : (withName nm d fun j => zN j fun j => match Nat.blt j tp, inNs j v.names with
      | true, false => purgeTK j t fun t => purgeHK j h fun h => renHK i j h fun h => zA (v.ren i j) fun v => renZ nm tp l (d + 1) v t h k
      | _, _ => .error "out") = .ok r := e
    show (withName nm d fun j => match Nat.blt j tp, inNs j v.names with
      | true, false => purgeTK j t fun t => purgeHK j h fun h => renHK i j h fun h => forceA (v.ren i j) fun v => renK nm tp l (d + 1) v t h K
      | _, _ => Stuck "out")
    rw [withName_eq, zN_eq] at e
    rw [withName_eq]
    split at e
    · rename_i h1 h2
      try rw [h1, h2]
      try dsimp only
      rw [purgeTK_eq, purgeHK_L, renHK_L, zA_eq] at e
      rw [purgeTK_eq, purgeHK_L, renHK_L, forceA_eq]
      exact renZ_of hK e
    · cases e
noncomputable def outZ (nm tp : Nat) (dst : Option Nat) (v : AV) (t : List AV) (h : List (Nat × Blk)) (k : AV → List AV → List (Nat × Blk) → Z β) : Z β :=
  match newNs tp v.names with
  | [] => k v t h
  | i :: r => match dst with
    | none => .error "out"
    | some d => match scopeLt tp h, Nat.ble nm tp with
      | true, true => renZ nm tp (i :: r) d v t h fun v t h => match allInN h v.names, nsLt tp v.names with
        | true, true => k v t h
        | _, _ => .error "out"
      | _, _ => .error "out"
theorem outZ_of {C : Table} {dst : Option Nat} {v : AV} {t : List AV} {h : List (Nat × Blk)} {k : AV → List AV → List (Nat × Blk) → Z β} {r : β} {K : AV → List AV → List (Nat × Blk) → Prop} (hK : ∀ v t h, k v t h = .ok r → K v t h)
    (e : outZ C.nm C.tp dst v t h k = .ok r) : outK C dst v t h K := by
  unfold outZ at e
  unfold outK
  split at e
  · rename_i hn; rw [hn]; exact hK _ _ _ e
  · rename_i i l hn
    rw [hn]
    dsimp only
    split at e
    · cases e
    · dsimp only
      split at e
      · rename_i h1 h2
        rw [h1, h2]
        dsimp only
        refine renZ_of (fun v t h hk => ?_) e
        split at hk
        · rename_i h3 h4; simp only [h3, h4]; exact hK _ _ _ hk
        · cases hk
      · cases e

noncomputable def doZ (C : ZT) (inl : Inl β) (ap : Ap) (kw : List (Nat × Bool)) (c : Option Nat) (dst : Option Nat) (s : S) (r : Req) (k : FP → S → Z β) : Z β :=
  match r with
  | .val v => putZ s dst v (k (false, []))
  | .rd i f => match look s.h i with
    | some b => match f b with
      | some (p, v) => condZ p (putZ s dst v (k (false, [i])))
      | none => .error "rd"
    | none => .error "rd"
  | .wr i f => match dst with
    | some _ => .error "wr"
    | none => match look s.h i with
      | some b => match f b with
        | some (p, b') => condZ p (zB b' fun b' => setB s.h i b' fun h => k (true, [i]) ⟨s.t, h⟩)
        | none => .error "wr"
      | none => .error "wr"
  | .new b nv => match dst with
    | some d => withName C.nm d fun i => zN i fun i => match look s.h i with
      | none => match Nat.blt d s.t.length with
        | true => zB b fun b => zL (nv.at i) fun v => setK s.t d (.one v) fun t => k (true, [i]) ⟨t, (i, b) :: s.h⟩
        | false => .error "new"
      | some _ => .error "new"
    | none => .error "new"
  | .call f args => zAs args fun args => match C.fn f args (blks (look s.h) (anames args)) with
    | some (p, v) => condZ p (forceNs (anames args) fun ns => putZ s dst v (k (false, ns)))
    | none => match C.mkr f args (blks (look s.h) (anames args)) with
     | some (p, b, nv) => condZ p (match dst with
       | some d => withName C.nm d fun i => zN i fun i => match look s.h i with
         | none => match Nat.blt d s.t.length with
           | true => forceNs (anames args) fun ns => zB b fun b => zL (nv.at i) fun v => setK s.t d (.one v) fun t => k (true, i :: ns) ⟨t, (i, b) :: s.h⟩
           | false => .error "new"
         | some _ => .error "new"
       | none => .error "new")
     | none => match allLt C.tp s.h with
      | true => inl f C.tp args s.h fun v h => outZ C.nm C.tp dst v s.t h fun v t h => putZ ⟨t, h⟩ dst v (k (true, []))
      | false => .error (callE f)
  | .glob T g off => match C.glob T g off with
    | some v => putZ s dst v (k (false, []))
    | none => .error "glob"
  | .look T ok g b key => match C.look T ok g b key with
    | some (p, v) => condZ p (putZ s dst v (k (false, [])))
    | none => .error "look"
  | .pick b x y => match c.bind (kn kw) with
    | some true => putZ s dst x (k (false, []))
    | some false => putZ s dst y (k (false, []))
    | none => match b with
      | true => putZ s dst x (k (false, []))
      | false => putZ s dst y (k (false, []))
  | .app base e z m x => match ap with
    | .clo => match dst with
      | none => .error "app"
      | some d => srcZ x s.h fun c g => condZ c (match base with
        | some (i, n) => match Nat.ble C.nm i with
          | true => match look s.h i with
            | some (.row T z' n' f) => match Nat.beq T e, Nat.beq z' z with
              | true, true => condZ (.p (n = n' ∧ ∀ j, j < m → (g j).length = z))
                (purgeTK i s.t fun t => purgeHK i s.h fun h => zB (.row e z (n + m) (joinI n f g)) fun b => putZ ⟨t, (i, b) :: h⟩ (some d) (.one (.rsl i (n + m))) (k (true, [i])))
              | _, _ => .error "app"
            | _ => .error "app"
          | false => .error "app"
        | none => condZ (.p (∀ j, j < m → (g j).length = z)) (match Nat.beq m 0 with
          | true => putZ s (some d) (.one (.raw (.slice none 0 0))) (k (true, []))
          | false => withName C.nm d fun i => zN i fun i => purgeTK i s.t fun t => purgeHK i s.h fun h => zB (.row e z m g) fun b => putZ ⟨t, (i, b) :: h⟩ (some d) (.one (.rsl i m)) (k (true, [i]))))
    | _ => .error "app"
/-- What goes through calls in their callers' places answers as the evaluator with letters does. -/
def InlZ (inl : Inl β) (i : InlP) (r : β) : Prop := ∀ f tp args h k (K : AV → List (Nat × Blk) → Prop), (∀ v h, k v h = .ok r → K v h) → inl f tp args h k = .ok r → i f tp args h K
theorem doZ_of {C : ZT} {inl : Inl β} {i : InlP} {ap : Ap} {r : β} (hI : InlZ inl i r)
    {kw : List (Nat × Bool)} {c dst : Option Nat} {s : S} {q : Req} {k : FP → S → Z β} {K : FP → S → Prop} (hK : ∀ fp s, k fp s = .ok r → K fp s) (e : doZ C inl ap kw c dst s q k = .ok r) : doK (C.tab i ap) kw c dst s q K := by
  cases q with
  | val v => exact putZ_of (hK _) e
  | rd j f =>
    simp only [doZ] at e
    simp only [doK]
    split at e
    · rename_i b hb
      rw [hb]
      dsimp only
      split at e
      · rename_i p v hv
        rw [hv]
        exact cond_with e (putZ_of (hK _))
      · cases e
    · cases e
  | wr j f =>
    simp only [doZ] at e
    simp only [doK]
    split at e
    · cases e
    · dsimp only
      split at e
      · rename_i b hb
        rw [hb]
        dsimp only
        split at e
        · rename_i p v hv
          rw [hv]
          refine cond_with e fun e => ?_
          rw [zB_eq, setB_L] at e
          rw [forceB_eq, setB_L]
          exact hK _ _ e
        · cases e
      · cases e
  | new b nv =>
    simp only [doZ] at e
    simp only [doK]
    split at e
    · dsimp only
      rw [withName_eq, zN_eq] at e
      rw [withName_eq]
      split at e
      · rename_i hn
        rw [hn]
        dsimp only
        split at e
        · rename_i hl
          rw [hl]
          dsimp only
          rw [zB_eq, zL_eq, setK_eq] at e
          rw [forceB_eq, forceL_eq, setK_eq]
          exact hK _ _ e
        · cases e
      · cases e
    · cases e
  | call f args =>
    simp only [doZ, zAs_eq] at e
    simp only [doK]
    split at e
    · rename_i p v hv
      rw [hv]
      refine cond_with e fun e => ?_
      rw [forceNs_eq] at e ⊢
      exact putZ_of (hK _) e
    · rename_i hv
      rw [hv]
      dsimp only
      split at e
      · rename_i p b nv hmk
        rw [hmk]
        refine cond_with e fun e => ?_
        split at e
        · dsimp only
          rw [withName_eq, zN_eq] at e
          rw [withName_eq]
          split at e
          · rename_i hn
            rw [hn]
            dsimp only
            split at e
            · rename_i hl
              rw [hl]
              dsimp only
              rw [forceNs_eq, zB_eq, zL_eq, setK_eq] at e
              rw [forceNs_eq, forceB_eq, forceL_eq, setK_eq]
              exact hK _ _ e
            · cases e
          · cases e
        · cases e
      rename_i hmk
      rw [hmk]
      dsimp only
      split at e
      · rename_i hl
        rw [hl]
        dsimp only
        exact hI _ _ _ _ _ _ (fun v h hk => outZ_of (C := C.tab i ap) (fun v t h hk => putZ_of (hK _) hk) hk) e
      · cases e
  | glob T g off =>
    simp only [doZ] at e
    simp only [doK]
    split at e
    · rename_i v hv
      rw [hv]
      exact putZ_of (hK _) e
    · cases e
  | look T ok g b key =>
    simp only [doZ] at e
    simp only [doK]
    split at e
    · rename_i p v hv
      rw [hv]
      exact cond_with e (putZ_of (hK _))
    · cases e
  | pick b x y =>
    simp only [doZ] at e
    simp only [doK]
    split at e
    · rename_i hk; rw [hk]; exact putZ_of (hK _) e
    · rename_i hk; rw [hk]; exact putZ_of (hK _) e
    · rename_i hk
      rw [hk]
      dsimp only
      cases b with
      | true => exact ⟨⟨fun _ => putZ_of (hK _) e⟩, ⟨fun h => by cases h⟩⟩
      | false => exact ⟨⟨fun h => by cases h⟩, ⟨fun _ => putZ_of (hK _) e⟩⟩
  | app base T z m x =>
    simp only [doZ] at e
    simp only [doK]
    split at e
    · dsimp only
      split at e
      · cases e
      · dsimp only
        refine srcZ_of (fun c g e => ?_) e
        refine cond_with e fun e => ?_
        split at e
        · rename_i j n
          dsimp only
          split at e
          · rename_i hle
            rw [hle]
            dsimp only
            split at e
            · rename_i T' z' n' f hb
              rw [hb]
              dsimp only
              split at e
              · rename_i h1 h2
                rw [h1, h2]
                refine cond_with e fun e => ?_
                rw [purgeTK_eq, purgeHK_L, zB_eq] at e
                rw [purgeTK_eq, purgeHK_L]
                exact putZ_of (hK _) e
              · cases e
            · cases e
          · cases e
        · refine cond_with e fun e => ?_
          split at e
          · rename_i h0
            rw [h0]
            exact putZ_of (hK _) e
          · rename_i h0
            rw [h0]
            dsimp only
            rw [withName_eq, zN_eq, purgeTK_eq, purgeHK_L, zB_eq] at e
            rw [withName_eq, purgeTK_eq, purgeHK_L]
            exact putZ_of (hK _) e
    · cases e

noncomputable def opZ (P : Program) (C : ZT) (inl : Inl β) (ap : Ap) (kw : List (Nat × Bool)) (o : Oper) (s : S) (k : FP → S → Z β) : Z β :=
  match req P o.op s.t with
  | some (p, q) => condZ p (doZ C inl ap kw (pickOf o.op) o.dst s q k)
  | none => .error o.pos
noncomputable def skipZ (o : Oper) (s : S) (k : FP → S → Z β) : Z β := putZ s o.dst noV (k (false, []))
noncomputable def runOpsZ (P : Program) (C : ZT) (inl : Inl β) (ap : Ap) (all : List Oper) (l : List Oper) : List (Nat × Bool) → S → (List FP → S → Z β) → Z β :=
  List.rec (motive := fun _ => List (Nat × Bool) → S → (List FP → S → Z β) → Z β) (fun _ s k => k [] s)
    (fun o _ ih kw s k => match o.guard with
      | none => opZ P C inl ap kw o s fun fp s => forceK (kmove kw o.op o.dst) fun kw => ih kw s fun fps => k (fp :: fps)
      | some (j, want) => match guardTmp all j with
        | none => .error "guard"
        | some d => match getT s.t d with
          | .one (.bool b) => match kn kw d with
            | some true => match want with
              | true => opZ P C inl ap kw o s fun fp s => forceK (kmove kw o.op o.dst) fun kw => ih kw s fun fps => k (fp :: fps)
              | false => skipZ o s fun fp s => forceK (kdelO kw o.dst) fun kw => ih kw s fun fps => k (fp :: fps)
            | some false => match want with
              | false => opZ P C inl ap kw o s fun fp s => forceK (kmove kw o.op o.dst) fun kw => ih kw s fun fps => k (fp :: fps)
              | true => skipZ o s fun fp s => forceK (kdelO kw o.dst) fun kw => ih kw s fun fps => k (fp :: fps)
            | none => match want with
              | true => match b with
                | true => opZ P C inl ap ((d, true) :: kw) o s fun fp s => forceK (kmove ((d, true) :: kw) o.op o.dst) fun kw => ih kw s fun fps => k (fp :: fps)
                | false => skipZ o s fun fp s => forceK (kdelO ((d, false) :: kw) o.dst) fun kw => ih kw s fun fps => k (fp :: fps)
              | false => match b with
                | true => skipZ o s fun fp s => forceK (kdelO ((d, true) :: kw) o.dst) fun kw => ih kw s fun fps => k (fp :: fps)
                | false => opZ P C inl ap ((d, false) :: kw) o s fun fp s => forceK (kmove ((d, false) :: kw) o.op o.dst) fun kw => ih kw s fun fps => k (fp :: fps)
          | .one (.raw v) => match isBoolV v with
            | false => skipZ o s fun fp s => forceK (kdelO kw o.dst) fun kw => ih kw s fun fps => k (fp :: fps)
            | true => .error "guard"
          | _ => .error "guard") l
theorem opZ_of {P : Program} {C : ZT} {inl : Inl β} {i : InlP} {ap : Ap} {r : β} (hI : InlZ inl i r) {kw : List (Nat × Bool)} {o : Oper} {s : S} {k : FP → S → Z β} {K : FP → S → Prop} (hK : ∀ fp s, k fp s = .ok r → K fp s)
    (e : opZ P C inl ap kw o s k = .ok r) : opK P (C.tab i ap) kw o s K := by
  unfold opZ at e
  unfold opK
  split at e
  · rename_i p q hq
    rw [hq]
    exact cond_with e (doZ_of hI hK)
  · cases e
theorem skipZ_of {o : Oper} {s : S} {r : β} {k : FP → S → Z β} {K : FP → S → Prop} (hK : ∀ fp s, k fp s = .ok r → K fp s) (e : skipZ o s k = .ok r) : skipK o s K := putZ_of (hK _) e
theorem runOpsZ_of {P : Program} {C : ZT} {inl : Inl β} {i : InlP} {ap : Ap} {r : β} (hI : InlZ inl i r) {all : List Oper} : ∀ {l : List Oper} {kw : List (Nat × Bool)} {s : S} {k : List FP → S → Z β} {K : List FP → S → Prop}, (∀ fp s, k fp s = .ok r → K fp s) →
    runOpsZ P C inl ap all l kw s k = .ok r → runOps P (C.tab i ap) all l kw s K
  | [], kw, s, k, K, hK, e => hK _ _ e
  | o :: l, kw, s, k, K, hK, e => by
    have yes : ∀ {kw}, opZ P C inl ap kw o s (fun fp s => forceK (kmove kw o.op o.dst) fun kw => runOpsZ P C inl ap all l kw s fun fps => k (fp :: fps)) = .ok r → opK P (C.tab i ap) kw o s (fun fp s => forceK (kmove kw o.op o.dst) fun kw => runOps P (C.tab i ap) all l kw s fun fps => K (fp :: fps)) := fun e =>
      opZ_of hI (fun fp s e => by rw [forceK_eq] at e ⊢; exact runOpsZ_of hI (fun fps s e => hK _ _ e) e) e
    have no : ∀ {kw}, skipZ o s (fun fp s => forceK (kdelO kw o.dst) fun kw => runOpsZ P C inl ap all l kw s fun fps => k (fp :: fps)) = .ok r → skipK o s (fun fp s => forceK (kdelO kw o.dst) fun kw => runOps P (C.tab i ap) all l kw s fun fps => K (fp :: fps)) := fun e =>
      skipZ_of (fun fp s e => by rw [forceK_eq] at e ⊢; exact runOpsZ_of hI (fun fps s e => hK _ _ e) e) e
    have e : (match o.guard with
      | none => opZ P C inl ap kw o s fun fp s => forceK (kmove kw o.op o.dst) fun kw => runOpsZ P C inl ap all l kw s fun fps => k (fp :: fps)
      | some (j, want) => match guardTmp all j with
        | none => .error "guard"
        | some d => match getT s.t d with
          | .one (.bool b) => match kn kw d with
            | some true => match want with
              | true => opZ P C inl ap kw o s fun fp s => forceK (kmove kw o.op o.dst) fun kw => runOpsZ P C inl ap all l kw s fun fps => k (fp :: fps)
              | false => skipZ o s fun fp s => forceK (kdelO kw o.dst) fun kw => runOpsZ P C inl ap all l kw s fun fps => k (fp :: fps)
            | some false => match want with
              | false => opZ P C inl ap kw o s fun fp s => forceK (kmove kw o.op o.dst) fun kw => runOpsZ P C inl ap all l kw s fun fps => k (fp :: fps)
              | true => skipZ o s fun fp s => forceK (kdelO kw o.dst) fun kw => runOpsZ P C inl ap all l kw s fun fps => k (fp :: fps)
            | none => match want with
              | true => match b with
                | true => opZ P C inl ap ((d, true) :: kw) o s fun fp s => forceK (kmove ((d, true) :: kw) o.op o.dst) fun kw => runOpsZ P C inl ap all l kw s fun fps => k (fp :: fps)
                | false => skipZ o s fun fp s => forceK (kdelO ((d, false) :: kw) o.dst) fun kw => runOpsZ P C inl ap all l kw s fun fps => k (fp :: fps)
              | false => match b with
                | true => skipZ o s fun fp s => forceK (kdelO ((d, true) :: kw) o.dst) fun kw => runOpsZ P C inl ap all l kw s fun fps => k (fp :: fps)
                | false => opZ P C inl ap ((d, false) :: kw) o s fun fp s => forceK (kmove ((d, false) :: kw) o.op o.dst) fun kw => runOpsZ P C inl ap all l kw s fun fps => k (fp :: fps)
          | .one (.raw v) => match isBoolV v with
            | false => skipZ o s fun fp s => forceK (kdelO kw o.dst) fun kw => runOpsZ P C inl ap all l kw s fun fps => k (fp :: fps)
            | true => .error "guard"
          | _ => .error "guard") = .ok r := e
    rw [runOps_cons]
    split at e
    · rename_i hg; rw [hg]; exact yes e
    · rename_i j want hg
      rw [hg]
      dsimp only
      split at e
      · cases e
      · rename_i d hd
        rw [hd]
        dsimp only
        split at e
        · rename_i b hb
          rw [hb]
          dsimp only
          split at e
          · rename_i hk
            rw [hk]
            cases want
            · exact no e
            · exact yes e
          · rename_i hk
            rw [hk]
            cases want
            · exact yes e
            · exact no e
          · rename_i hk
            rw [hk]
            cases want
            · cases b
              · exact ⟨⟨fun h => by cases h⟩, ⟨fun _ => yes e⟩⟩
              · exact ⟨⟨fun _ => no e⟩, ⟨fun h => by cases h⟩⟩
            · cases b
              · exact ⟨⟨fun h => by cases h⟩, ⟨fun _ => no e⟩⟩
              · exact ⟨⟨fun _ => yes e⟩, ⟨fun h => by cases h⟩⟩
        · rename_i v hv
          rw [hv]
          dsimp only
          split at e
          · rename_i hb
            rw [hb]
            exact no e
          · cases e
        · cases e
end Go.Ep
