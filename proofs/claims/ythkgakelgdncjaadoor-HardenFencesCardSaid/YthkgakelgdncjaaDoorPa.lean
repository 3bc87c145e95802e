/-
  An evaluator for the model's code over values that bear letters: it goes through a function's code in the order of the text and leaves what is to be shown. Definitions alone; that it is sound is XEvS. Conditions: none.
-/
import Derived.Deep.Quiet
import Derived.WalkKit
import Derived.Below
import Derived.KernelRfl
import Derived.StillTail
import Derived.Test.YthkgakelgdncjaaDoorPhT
namespace Go.Ep
open Go.RowKit
set_option linter.unusedVariables false
set_option linter.unusedSimpArgs false

/-- A plain value of one cell. -/
inductive PL
  | b64 (s : Bool) (x : BitVec 64)
  | b32 (s : Bool) (x : BitVec 32)
  | b16 (s : Bool) (x : BitVec 16)
  | b8 (s : Bool) (x : BitVec 8)
  | bool (b : Bool)
  | str (s : ByteArray)
/-- A value of one cell: numbers as bit vectors (s: whether its highest bit is a sign), own addresses by the name of the block, the map of a package variable (its number, and the map's block), whatever else; 'junk': whatever it is. rptr: in a row of elements of z cells that begins at cell o of a block: cell p of element k; rsl: the slice of a whole block, of so many elements; rsc: the slice of a block from its element k on (of z cells), of n elements; imap: an own map of numbers; seg: n elements of z cells each, not one cell. -/
inductive L
  | b64 (s : Bool) (x : BitVec 64)
  | b32 (s : Bool) (x : BitVec 32)
  | b16 (s : Bool) (x : BitVec 16)
  | b8 (s : Bool) (x : BitVec 8)
  | bool (b : Bool)
  | str (s : ByteArray)
  | ptr (i : Nat) (off : Nat)
  | eptr (i off n k : Nat)
  | slc (i off len cap : Nat)
  | gmap (g b : Nat)
  | clo (f : Nat) (caps : List (Nat × Nat))
  | raw (v : Value)
  | rptr (i o z k p : Nat)
  | rsl (i n : Nat)
  | rsc (i z k n : Nat)
  | imap (i : Nat)
  | seg (z n : Nat) (f : Nat → List PL)
  | junk

inductive AV
  | one (l : L)
  | agg (ls : List L)
  | tup (vs : List (Bool × List L))

inductive Blk
  | cells (T : TypeId) (ls : List L)
  | ro (T : TypeId) (ls : List L)
  | row (T : TypeId) (z n : Nat) (f : Nat → List PL)
  | imap (es : List (BitVec 64 × BitVec 64))
  | romap (es : List (BitVec 64 × BitVec 64))
def Blk.rdL : Blk → Option (List L)
  | .cells _ ls => some ls
  | .ro _ ls => some ls
  | .row _ z n f => some [.seg z n f]
  | .imap _ => none
  | .romap _ => none
def Blk.own : Blk → Bool
  | .ro _ _ => false
  | .romap _ => false
  | _ => true

/-- What the evaluator bears: the slots; the blocks that it made, by name. -/
structure S where
  t : List AV
  h : List (Nat × Blk)

inductive Both (p q : Prop) : Prop
  | mk (a : p) (b : q) : Both p q
inductive Given (p q : Prop) : Prop
  | mk (h : p → q) : Given p q
inductive Ob (p : Prop) : Prop
  | mk (a : p) : Ob p
inductive Stuck (s : String) : Prop
/-- A condition; 't': none. -/
inductive Cond
  | t
  | p (h : Prop) (d : Option (Decidable h) := by first | exact some inferInstance | exact none)
def Cond.holds : Cond → Prop
  | .t => True
  | .p h _ => h
def withC (c : Cond) (q : Prop) : Prop := match c with
  | .t => q
  | .p h _ => Both (Ob h) q

def getT : List AV → Nat → AV
  | [], _ => .one .junk
  | x :: _, 0 => x
  | _ :: xs, n + 1 => getT xs n
/- What is gone through step by step stands over the recursors themselves: so Lean's two ways of reckoning meet in the same terms. -/
noncomputable def setK {α : Sort _} (l : List AV) : Nat → AV → (List AV → α) → α :=
  List.rec (motive := fun _ => Nat → AV → (List AV → α) → α) (fun _ _ k => k [])
    (fun x xs ih n v k => match n with
      | 0 => k (v :: xs)
      | m + 1 => ih m v fun ys => k (x :: ys)) l
def forceL {α : Sort _} (l : L) (k : L → α) : α :=
  match l with
  | .b64 s x => k (.b64 s x)
  | .b32 s x => k (.b32 s x)
  | .b16 s x => k (.b16 s x)
  | .b8 s x => k (.b8 s x)
  | .bool b => k (.bool b)
  | .str s => k (.str s)
  | .ptr i o => k (.ptr i o)
  | .eptr i o n j => k (.eptr i o n j)
  | .slc i o l c => k (.slc i o l c)
  | .gmap g b => k (.gmap g b)
  | .clo f c => k (.clo f c)
  | .raw v => k (.raw v)
  | .rptr i o z j p => k (.rptr i o z j p)
  | .rsl i n => k (.rsl i n)
  | .rsc i z j n => k (.rsc i z j n)
  | .imap i => k (.imap i)
  | .seg z n f => k (.seg z n f)
  | .junk => k .junk
noncomputable def forceLs {α : Sort _} (l : List L) : (List L → α) → α :=
  List.rec (motive := fun _ => (List L → α) → α) (fun k => k []) (fun l _ ih k => forceL l fun l => ih fun ls => k (l :: ls)) l
noncomputable def forceVs {α : Sort _} (l : List (Bool × List L)) : (List (Bool × List L) → α) → α :=
  List.rec (motive := fun _ => (List (Bool × List L) → α) → α) (fun k => k [])
    (fun p _ ih k => match p with
      | (true, l) => forceLs l fun l => ih fun ls => k ((true, l) :: ls)
      | (false, l) => forceLs l fun l => ih fun ls => k ((false, l) :: ls)) l
noncomputable def forceA {α : Sort _} (v : AV) (k : AV → α) : α :=
  match v with
  | .one l => forceL l fun l => k (.one l)
  | .agg ls => forceLs ls fun ls => k (.agg ls)
  | .tup vs => forceVs vs fun vs => k (.tup vs)
noncomputable def forceB {α : Sort _} (b : Blk) (k : Blk → α) : α := match b with
  | .cells T ls => forceLs ls fun ls => k (.cells T ls)
  | .ro T ls => forceLs ls fun ls => k (.ro T ls)
  | .row T z n f => k (.row T z n f)
  | .imap es => k (.imap es)
  | .romap es => k (.romap es)

/-- A literal number as a bit vector, if it is of w bits. -/
def litW (w : Nat) (s : Bool) (mk : BitVec w → L) (v : Value) (n : Int) : L :=
  match n with
  | Int.ofNat m => match Nat.blt m (2 ^ (match s with | true => w - 1 | false => w)) with
    | true => mk (BitVec.ofNat w (OfNat.ofNat m))
    | false => .raw v
  | Int.negSucc m => match s with
    | true => match Nat.blt m (2 ^ (w - 1)) with
      | true => mk (BitVec.ofInt w (Int.negSucc m))
      | false => .raw v
    | false => .raw v
def ofLeaf (v : Value) : L :=
  match v with
  | .int k n => match k with
    | .u64 => litW 64 false (.b64 false) v n
    | .i64 => litW 64 true (.b64 true) v n
    | .u32 => litW 32 false (.b32 false) v n
    | .i32 => litW 32 true (.b32 true) v n
    | .u16 => litW 16 false (.b16 false) v n
    | .i16 => litW 16 true (.b16 true) v n
    | .u8 => litW 8 false (.b8 false) v n
    | .i8 => litW 8 true (.b8 true) v n
  | .bool b => .bool b
  | .string s => .str s
  | v => .raw v
def mapLeaf : List Value → List L
  | [] => []
  | v :: vs => ofLeaf v :: mapLeaf vs
def ofV (v : Value) : AV :=
  match v with
  | .agg cs => .agg (mapLeaf cs.toList)
  | v => .one (ofLeaf v)
def ev (t : List AV) : Operand → AV
  | .tmp n => getT t n
  | .const v => ofV v
  | .func f => .one (.raw (.func (.func f) #[] #[]))
  | .global g => .one (.raw (.pointer (some ⟨g, 0, none⟩)))
def evs (t : List AV) : List Operand → List AV
  | [] => []
  | x :: xs => ev t x :: evs t xs
def evp (t : List AV) : List (Nat × Operand) → List (Nat × AV)
  | [] => []
  | (i, x) :: xs => (i, ev t x) :: evp t xs

/-- What is yielded where a block is made: its address, or a slice of it. -/
inductive NewV
  | p
  | s (len : Nat)
  | r (len : Nat)
  | m
def NewV.at : NewV → Nat → L
  | .p, d => .ptr d 0
  | .s n, d => .slc d 0 n n
  | .r n, d => .rsl d n
  | .m, d => .imap d
/-- Where the elements that are appended stand: in a block, or nowhere. -/
inductive Src
  | mem (j : Nat) (k : Blk → Option (Cond × (Nat → List PL)))
  | here (g : Nat → List PL)
/-- What an operation asks for, once its operands are known. -/
inductive Req
  | val (v : AV)
  | rd (i : Nat) (k : Blk → Option (Cond × AV))
  | wr (i : Nat) (k : Blk → Option (Cond × Blk))
  | new (b : Blk) (v : NewV)
  | call (f : FuncId) (args : List AV)
  | glob (T : TypeId) (g off : Nat)
  | look (T : TypeId) (ok : Bool) (g b : Nat) (key : AV)
  | pick (b : Bool) (x y : AV)
  | app (s : Option (Nat × Nat)) (e : TypeId) (z m : Nat) (x : Src)

/-- What own addresses are captured. -/
def capsOf (t : List AV) : List Operand → Option (List (Nat × Nat))
  | [] => some []
  | x :: xs => match ev t x with
    | .one (.ptr i o) => match capsOf t xs with
      | some r => some ((i, o) :: r)
      | none => none
    | _ => none
def capVs : List (Nat × Nat) → List AV
  | [] => []
  | (i, o) :: r => .one (.ptr i o) :: capVs r
def isAggT (P : Program) (t : TypeId) : Option Bool := match P.underlying t with
  | some (.struct _) | some (.array _ _) => some true
  | some _ => some false
  | none => none
def PL.toL : PL → L
  | .b64 s x => .b64 s x
  | .b32 s x => .b32 s x
  | .b16 s x => .b16 s x
  | .b8 s x => .b8 s x
  | .bool b => .bool b
  | .str s => .str s
def L.pl : L → Option PL
  | .b64 s x => some (.b64 s x)
  | .b32 s x => some (.b32 s x)
  | .b16 s x => some (.b16 s x)
  | .b8 s x => some (.b8 s x)
  | .bool b => some (.bool b)
  | .str s => some (.str s)
  | _ => none
def toLs : List PL → List L
  | [] => []
  | p :: r => p.toL :: toLs r
def toPLs : List L → Option (List PL)
  | [] => some []
  | l :: r => match l.pl with
    | some p => match toPLs r with
      | some ps => some (p :: ps)
      | none => none
    | none => none
def dropP : List PL → Nat → List PL
  | ps, 0 => ps
  | [], _ + 1 => []
  | _ :: ps, n + 1 => dropP ps n
def takeP : List PL → Nat → Option (List PL)
  | _, 0 => some []
  | [], _ + 1 => none
  | p :: ps, n + 1 => match takeP ps n with
    | some r => some (p :: r)
    | none => none
/-- How many cells. -/
def wid : L → Nat
  | .seg z n _ => z * n
  | _ => 1
def wids : List L → Nat
  | [] => 0
  | l :: ls => wids ls + wid l
def appL : List L → List L → List L
  | [], ys => ys
  | x :: xs, ys => x :: appL xs ys
/-- The elements from number k on, and what stands behind them. -/
def tailS (z m : Nat) (f : Nat → List PL) (k : Nat) (ls : List L) : List L := match Nat.beq k m with
  | true => ls
  | false => .seg z (m - k) (fun j => f (j + k)) :: ls
def dropL : List L → Nat → List L
  | ls, 0 => ls
  | [], _ + 1 => []
  | l :: ls, n + 1 => match l with
    | .seg z m f => match Nat.ble (z * m) (n + 1) with
      | true => dropL ls (n + 1 - z * m)
      | false => appL (toLs (dropP (f ((n + 1) / z)) ((n + 1) % z))) (tailS z m f ((n + 1) / z + 1) ls)
    | _ => dropL ls n
def takeL : List L → Nat → Option (List L)
  | _, 0 => some []
  | [], _ + 1 => none
  | l :: ls, n + 1 => match l with
    | .seg z m f => match Nat.ble (z * m) (n + 1) with
      | true => match takeL ls (n + 1 - z * m) with
        | some r => some (.seg z m f :: r)
        | none => none
      | false => match Nat.ble (n + 1) z with
        | true => match takeP (f 0) (n + 1) with
          | some r => some (toLs r)
          | none => none
        | false => none
    | l => match takeL ls n with
      | some r => some (l :: r)
      | none => none
/-- The first cell. -/
def headL : List L → Option L
  | [] => none
  | l :: _ => match l with
    | .seg _ m f => match m with
      | 0 => none
      | _ + 1 => match f 0 with
        | p :: _ => some p.toL
        | [] => none
    | l => some l
/-- One of two plain values. -/
def pickP (c : Prop) [Decidable c] (v x : PL) : PL := match v with
  | .b64 s v => match x with
    | .b64 s' x => match s, s' with
      | true, true => .b64 true (if c then v else x)
      | false, false => .b64 false (if c then v else x)
      | s, s' => if c then .b64 s v else .b64 s' x
    | x => if c then .b64 s v else x
  | .b32 s v => match x with
    | .b32 s' x => match s, s' with
      | true, true => .b32 true (if c then v else x)
      | false, false => .b32 false (if c then v else x)
      | s, s' => if c then .b32 s v else .b32 s' x
    | x => if c then .b32 s v else x
  | .b16 s v => match x with
    | .b16 s' x => match s, s' with
      | true, true => .b16 true (if c then v else x)
      | false, false => .b16 false (if c then v else x)
      | s, s' => if c then .b16 s v else .b16 s' x
    | x => if c then .b16 s v else x
  | .b8 s v => match x with
    | .b8 s' x => match s, s' with
      | true, true => .b8 true (if c then v else x)
      | false, false => .b8 false (if c then v else x)
      | s, s' => if c then .b8 s v else .b8 s' x
    | x => if c then .b8 s v else x
  | .bool v => match x with
    | .bool x => .bool (if c then v else x)
    | x => if c then .bool v else x
  | .str v => if c then .str v else x
/-- Values laid over others from a place on, if c. -/
def mergeP (c : Prop) [Decidable c] : Nat → List PL → List PL → List PL
  | _, _, [] => []
  | 0, vs, x :: xs => match vs with
    | [] => x :: xs
    | v :: vs => pickP c v x :: mergeP c 0 vs xs
  | p + 1, vs, x :: xs => x :: mergeP c p vs xs
/-- Values laid into element k. -/
def updF (f : Nat → List PL) (k p : Nat) (vs : List PL) : Nat → List PL := fun j => mergeP (j = k) p vs (f j)
/-- One of two rows. -/
def joinF (n : Nat) (f g : Nat → List PL) : Nat → List PL := fun j => mergeP (n ≤ j) 0 (g (j - n)) (f j)
def joinI (n : Nat) (f g : Nat → List PL) : Nat → List PL := fun j => match Nat.blt j n with
  | true => f j
  | false => g (j - n)
/-- Values laid into cells from a place on. -/
def setLs : List L → Nat → List L → Option (List L)
  | [], n, vs => match n with
    | 0 => match vs with
      | [] => some []
      | _ :: _ => none
    | _ + 1 => none
  | l :: ls, n, vs => match l with
    | .seg z m f => match Nat.ble (z * m) n with
      | true => match setLs ls (n - z * m) vs with
        | some r => some (.seg z m f :: r)
        | none => none
      | false => match toPLs vs with
        | some ps => match Nat.ble (n % z + ps.length) z with
          | true => some (.seg z m (updF f (n / z) (n % z) ps) :: ls)
          | false => match n with
            | 0 => match Nat.ble (wids vs) (wids (.seg z m f :: ls)) with
              | true => some (appL vs (dropL (.seg z m f :: ls) (wids vs)))
              | false => none
            | _ + 1 => none
        | none => match n with
          | 0 => match Nat.ble (wids vs) (wids (.seg z m f :: ls)) with
            | true => some (appL vs (dropL (.seg z m f :: ls) (wids vs)))
            | false => none
          | _ + 1 => none
    | l => match n with
      | 0 => match Nat.ble (wids vs) (wids (l :: ls)) with
        | true => some (appL vs (dropL (l :: ls) (wids vs)))
        | false => none
      | n + 1 => match setLs ls n vs with
        | some r => some (l :: r)
        | none => none
/-- A value that a cell may hold. -/
def leafV : Value → Bool
  | .agg _ | .tuple _ => false
  | _ => true
def L.ok : L → Bool
  | .junk => false
  | .seg _ _ _ => false
  | .raw v => leafV v
  | _ => true
/-- A cell or more that may be stored. -/
def L.okS : L → Bool
  | .seg _ _ _ => true
  | l => l.ok
def okLs : List L → Bool
  | [] => true
  | l :: ls => match l.okS with
    | true => okLs ls
    | false => false
/-- The cells of a value. -/
def AV.ls : AV → Option (List L)
  | .one l => match l.ok with
    | true => some [l]
    | false => none
  | .agg ls => some ls
  | .tup _ => none
def placesOf (P : Program) : List Field → Option (List (Nat × Nat))
  | [] => some []
  | f :: fs => match P.info? f.type, placesOf P fs with
    | some i, some r => some ((f.offset, i.size) :: r)
    | _, _ => none
def nth {α : Type _} : List α → Nat → Option α
  | [], _ => none
  | x :: _, 0 => some x
  | _ :: xs, n + 1 => nth xs n
/-- Parts of a value laid into its cells; 'place': where a part lies, and how many cells it has. -/
def fillLs (place : Nat → Option (Nat × Nat)) (cs : List L) : List (Nat × AV) → Option (List L)
  | [] => some cs
  | (i, v) :: r => match place i with
    | none => none
    | some (off, size) => match v.ls with
      | none => none
      | some ls => match Nat.beq (wids ls) size with
        | false => none
        | true => match setLs cs off ls with
          | none => none
          | some cs => fillLs place cs r

/-- n cells, of zeros one behind the other, from number k on. -/
def zfill (zs : List L) : Nat → Nat → List L
  | 0, _ => []
  | n + 1, k => (match nth zs (k % zs.length) with | some l => l | none => .junk) :: zfill zs n (k + 1)

def eqB (a b : Bool) : Bool := match a, b with
  | true, true | false, false => true
  | _, _ => false
def eqPL (x y : PL) : Bool := match x, y with
  | .b64 s x, .b64 s' y => match eqB s s' with | true => Nat.beq x.toNat y.toNat | false => false
  | .b32 s x, .b32 s' y => match eqB s s' with | true => Nat.beq x.toNat y.toNat | false => false
  | .b16 s x, .b16 s' y => match eqB s s' with | true => Nat.beq x.toNat y.toNat | false => false
  | .b8 s x, .b8 s' y => match eqB s s' with | true => Nat.beq x.toNat y.toNat | false => false
  | .bool x, .bool y => eqB x y
  | _, _ => false
/-- Does a row of cells begin with these? What stands behind them. -/
def cutPL : List PL → List L → Option (List L)
  | [], ls => some ls
  | p :: ps, l :: ls => match l.pl with
    | some q => match eqPL p q with
      | true => cutPL ps ls
      | false => none
    | none => none
  | _ :: _, [] => none
/-- Is it these n times, and nothing else? -/
def repPL (ps : List PL) : Nat → List L → Bool
  | 0, [] => true
  | 0, _ :: _ => false
  | n + 1, ls => match cutPL ps ls with
    | some r => repPL ps n r
    | none => false
/-- An array that is borne by a function of the element's number. -/
def bigA (n z : Nat) : Bool := match Nat.ble 17 n with
  | true => true
  | false => match Nat.ble 8 n with
    | true => Nat.ble 2 z
    | false => false
def normF (P : Program) (nf : TypeId → List L → List L) : Nat → List Field → List L → Option (List L)
  | _, [], ls => match ls with
    | [] => some []
    | _ :: _ => none
  | o, f :: fs, ls => match P.info? f.type with
    | none => none
    | some i => match Nat.beq f.offset o with
      | false => none
      | true => match takeL ls i.size with
        | none => none
        | some a => match normF P nf (o + i.size) fs (dropL ls i.size) with
          | none => none
          | some r => some (appL (nf f.type a) r)
/-- The cells of a zero value, its great arrays by functions. -/
def norm (P : Program) : Nat → TypeId → List L → List L
  | 0, _, ls => ls
  | d + 1, T, ls => match P.underlying T with
    | some (.struct fs) => match normF P (norm P d) 0 fs.toList ls with
      | some r => r
      | none => ls
    | some (.array n e) => match P.info? e with
      | some i => match bigA n i.size with
        | true => match takeL ls i.size with
          | some a => match toPLs a with
            | some ps => match repPL ps n ls with
              | true => [.seg i.size n (fun _ => ps)]
              | false => ls
            | none => ls
          | none => ls
        | false => ls
      | none => ls
    | _ => ls

def ltW {w : Nat} (s : Bool) (x y : BitVec w) : Bool := match s with
  | true => x.slt y
  | false => x.ult y
def leW {w : Nat} (s : Bool) (x y : BitVec w) : Bool := match s with
  | true => x.sle y
  | false => x.ule y
def quoW {w : Nat} (s : Bool) (x y : BitVec w) : BitVec w := match s with
  | true => x.sdiv y
  | false => x / y
def remW {w : Nat} (s : Bool) (x y : BitVec w) : BitVec w := match s with
  | true => x.srem y
  | false => x % y
def shrW {w : Nat} (s : Bool) (x : BitVec w) (n : Nat) : BitVec w := match s with
  | true => x.sshiftRight n
  | false => x >>> n
/-- By whether the highest bit is a sign. -/
def pickS {α : Type _} (s : Bool) (x y : α) : Option (Cond × α) := match s with
  | true => some (.t, x)
  | false => some (.t, y)
def pickQ {α : Type _} (s : Bool) (c : Prop) [Decidable c] (x y : α) : Option (Cond × α) := match s with
  | true => some (.p c, x)
  | false => some (.p c, y)
def pickO {α : Type _} (s : Bool) (x y : α) : Option α := match s with
  | true => some x
  | false => some y
def binW {w : Nat} (mk : BitVec w → L) (s : Bool) (op : BinOp) (x y : BitVec w) : Option (Cond × L) :=
  match op with
  | .add => some (.t, mk (x + y))
  | .sub => some (.t, mk (x - y))
  | .mul => some (.t, mk (x * y))
  | .quo => pickQ s (y ≠ 0#w) (mk (x.sdiv y)) (mk (x / y))
  | .rem => pickQ s (y ≠ 0#w) (mk (x.srem y)) (mk (x % y))
  | .and => some (.t, mk (x &&& y))
  | .or => some (.t, mk (x ||| y))
  | .xor => some (.t, mk (x ^^^ y))
  | .andNot => some (.t, mk (x &&& ~~~y))
  | .eql => some (.t, .bool (x == y))
  | .neq => some (.t, .bool (x != y))
  | .lss => pickS s (.bool (x.slt y)) (.bool (x.ult y))
  | .leq => pickS s (.bool (x.sle y)) (.bool (x.ule y))
  | .gtr => pickS s (.bool (y.slt x)) (.bool (y.ult x))
  | .geq => pickS s (.bool (y.sle x)) (.bool (y.ule x))
  | _ => none
/-- By how many bits is shifted, and whether that may be. -/
def amount : L → Option (Cond × Nat)
  | .b64 s y => some (match s with | true => .p (0 ≤ y.toInt) | false => .t, y.toNat)
  | .b32 s y => some (match s with | true => .p (0 ≤ y.toInt) | false => .t, y.toNat)
  | .b16 s y => some (match s with | true => .p (0 ≤ y.toInt) | false => .t, y.toNat)
  | .b8 s y => some (match s with | true => .p (0 ≤ y.toInt) | false => .t, y.toNat)
  | _ => none
def isShift : BinOp → Bool
  | .shl | .shr => true
  | _ => false
def shW {w : Nat} (mk : BitVec w → L) (s : Bool) (op : BinOp) (x : BitVec w) (n : Nat) : Option L :=
  match op with
  | .shl => some (mk (x <<< n))
  | .shr => pickO s (mk (x.sshiftRight n)) (mk (x >>> n))
  | _ => none
def shift (op : BinOp) (x y : L) : Option (Cond × L) :=
  match amount y with
  | none => none
  | some (p, n) => match (match x with
      | .b64 s x => shW (.b64 s) s op x n
      | .b32 s x => shW (.b32 s) s op x n
      | .b16 s x => shW (.b16 s) s op x n
      | .b8 s x => shW (.b8 s) s op x n
      | _ => none) with
    | some l => some (p, l)
    | none => none
def same (s t : Bool) {α : Type _} (x : Option α) : Option α := match s, t with
  | true, true | false, false => x
  | _, _ => none
def binL (op : BinOp) (x y : L) : Option (Cond × L) :=
  match isShift op with
  | true => shift op x y
  | false => match x, y with
    | .b64 s x, .b64 s' y => same s s' (binW (.b64 s) s op x y)
    | .b32 s x, .b32 s' y => same s s' (binW (.b32 s) s op x y)
    | .b16 s x, .b16 s' y => same s s' (binW (.b16 s) s op x y)
    | .b8 s x, .b8 s' y => same s s' (binW (.b8 s) s op x y)
    | _, _ => none
def convW {w w' : Nat} (s : Bool) (x : BitVec w) : BitVec w' := match s with
  | true => x.signExtend w'
  | false => x.setWidth w'
def convTo {w : Nat} (k : IntKind) (s : Bool) (x : BitVec w) : Option L :=
  match k with
  | .u64 => pickO s (.b64 false (x.signExtend 64)) (.b64 false (x.setWidth 64))
  | .i64 => pickO s (.b64 true (x.signExtend 64)) (.b64 true (x.setWidth 64))
  | .u32 => pickO s (.b32 false (x.signExtend 32)) (.b32 false (x.setWidth 32))
  | .i32 => pickO s (.b32 true (x.signExtend 32)) (.b32 true (x.setWidth 32))
  | .u16 => pickO s (.b16 false (x.signExtend 16)) (.b16 false (x.setWidth 16))
  | .i16 => pickO s (.b16 true (x.signExtend 16)) (.b16 true (x.setWidth 16))
  | .u8 => pickO s (.b8 false (x.signExtend 8)) (.b8 false (x.setWidth 8))
  | .i8 => pickO s (.b8 true (x.signExtend 8)) (.b8 true (x.setWidth 8))
def conv (k : IntKind) (x : L) : Option L :=
  match x with
  | .b64 s x => match k with
    | .u64 => some (.b64 false x)
    | .i64 => some (.b64 true x)
    | k => convTo k s x
  | .b32 s x => match k with
    | .u32 => some (.b32 false x)
    | .i32 => some (.b32 true x)
    | k => convTo k s x
  | .b16 s x => match k with
    | .u16 => some (.b16 false x)
    | .i16 => some (.b16 true x)
    | k => convTo k s x
  | .b8 s x => match k with
    | .u8 => some (.b8 false x)
    | .i8 => some (.b8 true x)
    | k => convTo k s x
  | _ => none
def un (op : UnOp) (x : L) : Option L :=
  match op with
  | .not => match x with
    | .bool b => some (.bool (!b))
    | _ => none
  | .neg => match x with
    | .b64 s x => some (.b64 s (-x))
    | .b32 s x => some (.b32 s (-x))
    | .b16 s x => some (.b16 s (-x))
    | .b8 s x => some (.b8 s (-x))
    | _ => none
  | .xor => match x with
    | .b64 s x => some (.b64 s (~~~x))
    | .b32 s x => some (.b32 s (~~~x))
    | .b16 s x => some (.b16 s (~~~x))
    | .b8 s x => some (.b8 s (~~~x))
    | _ => none
  | _ => none
def min2 (x y : L) : Option L := match x, y with
  | .b64 s x, .b64 s' y => same s s' (pickO s (.b64 true (if y.slt x then y else x)) (.b64 false (if y.ult x then y else x)))
  | .b32 s x, .b32 s' y => same s s' (pickO s (.b32 true (if y.slt x then y else x)) (.b32 false (if y.ult x then y else x)))
  | .b16 s x, .b16 s' y => same s s' (pickO s (.b16 true (if y.slt x then y else x)) (.b16 false (if y.ult x then y else x)))
  | .b8 s x, .b8 s' y => same s s' (pickO s (.b8 true (if y.slt x then y else x)) (.b8 false (if y.ult x then y else x)))
  | _, _ => none
def max2 (x y : L) : Option L := match x, y with
  | .b64 s x, .b64 s' y => same s s' (pickO s (.b64 true (if x.slt y then y else x)) (.b64 false (if x.ult y then y else x)))
  | .b32 s x, .b32 s' y => same s s' (pickO s (.b32 true (if x.slt y then y else x)) (.b32 false (if x.ult y then y else x)))
  | .b16 s x, .b16 s' y => same s s' (pickO s (.b16 true (if x.slt y then y else x)) (.b16 false (if x.ult y then y else x)))
  | .b8 s x, .b8 s' y => same s s' (pickO s (.b8 true (if x.slt y then y else x)) (.b8 false (if x.ult y then y else x)))
  | _, _ => none
/-- Are the cells of two values the same? Of numbers, bools and strings alone. -/
def eqL (x y : L) : Option Bool := match x, y with
  | .b64 s x, .b64 s' y => same s s' (some (x == y))
  | .b32 s x, .b32 s' y => same s s' (some (x == y))
  | .b16 s x, .b16 s' y => same s s' (some (x == y))
  | .b8 s x, .b8 s' y => same s s' (some (x == y))
  | .bool x, .bool y => some (x == y)
  | _, _ => none
def isNum : L → Bool
  | .b64 _ _ | .b32 _ _ | .b16 _ _ | .b8 _ _ => true
  | _ => false
def isBoolL : L → Bool
  | .bool _ => true
  | _ => false
def eqF (P : Program) (eqT : TypeId → List L → List L → Option Bool) : List Field → List L → List L → Option Bool
  | [], _, _ => some true
  | f :: fs, xs, ys => match P.info? f.type with
    | none => none
    | some i => match takeL (dropL xs f.offset) i.size, takeL (dropL ys f.offset) i.size with
      | some a, some b => match eqT f.type a b, fs with
        | some p, [] => some p
        | some p, fs => match eqF P eqT fs xs ys with
          | some q => some (p && q)
          | none => none
        | none, _ => none
      | _, _ => none
/-- Are the elements of two rows the same? -/
def eqA (eqE : List L → List L → Option Bool) (z : Nat) : Nat → List L → List L → Option Bool
  | 0, _, _ => some true
  | n + 1, xs, ys => match takeL xs z, takeL ys z with
    | some a, some b => match eqE a b, n with
      | some p, 0 => some p
      | some p, _ + 1 => match eqA eqE z n (dropL xs z) (dropL ys z) with
        | some q => some (p && q)
        | none => none
      | none, _ => none
    | _, _ => none
/-- Are two values of a type the same? Numbers, bools, and structs and arrays of such. -/
def eqT (P : Program) : Nat → TypeId → List L → List L → Option Bool
  | 0, _, _, _ => none
  | d + 1, T, xs, ys => match P.underlying T with
    | some (.int _) => match xs, ys with
      | [x], [y] => match isNum x with
        | true => eqL x y
        | false => none
      | _, _ => none
    | some .bool => match xs, ys with
      | [x], [y] => match isBoolL x with
        | true => eqL x y
        | false => none
      | _, _ => none
    | some (.struct fs) => eqF P (eqT P d) fs.toList xs ys
    | some (.array n e) => match P.info? e with
      | some i => eqA (eqT P d e) i.size n xs ys
      | none => none
    | _ => none
/-- Has a struct a field of the name _ , or does the model stand in for it? -/
def blankF (blank : TypeId → Bool) : List Field → Bool
  | [] => false
  | f :: fs => f.name == "_" || blank f.type || blankF blank fs
def blank (P : Program) : Nat → TypeId → Bool
  | 0, _ => false
  | d + 1, T => match P.underlying T with
    | some (.struct fs) => P.stoodInHeld T || blankF (blank P d) fs.toList
    | some (.array _ e) => blank P d e
    | _ => false
/-- A literal index. -/
def ixL : L → Option (Cond × Nat)
  | .b64 s x => some (match s with | true => .p (0 ≤ x.toInt) | false => .t, x.toNat)
  | .b32 s x => some (match s with | true => .p (0 ≤ x.toInt) | false => .t, x.toNat)
  | .b16 s x => some (match s with | true => .p (0 ≤ x.toInt) | false => .t, x.toNat)
  | .b8 s x => some (match s with | true => .p (0 ≤ x.toInt) | false => .t, x.toNat)
  | _ => none
def andC (c : Cond) (p : Prop) [Decidable p] : Cond := match c with
  | .t => .p p
  | .p q d => .p (q ∧ p) (match d with | some _ => some inferInstance | none => none)
/-- An index that stands as a number in the text. -/
def constIx : Operand → Option Nat
  | .const (.int .i64 (Int.ofNat n)) => some n
  | _ => none
def nthB : List UInt8 → Nat → BitVec 8
  | [], _ => 0#8
  | x :: _, 0 => x.toBitVec
  | _ :: xs, n + 1 => nthB xs n
/-- A string's byte; two strings one behind the other; a part of one. -/
def byteAt (s : ByteArray) (k : Nat) : BitVec 8 := nthB s.data.toList k
def catB (a b : ByteArray) : ByteArray := ⟨⟨a.data.toList ++ b.data.toList⟩⟩
def dropU : List UInt8 → Nat → List UInt8
  | xs, 0 => xs
  | [], _ + 1 => []
  | _ :: xs, n + 1 => dropU xs n
def takeU : List UInt8 → Nat → List UInt8
  | _, 0 => []
  | [], _ + 1 => []
  | x :: xs, n + 1 => x :: takeU xs n
def exB (s : ByteArray) (l h : Nat) : ByteArray := ⟨⟨takeU (dropU s.data.toList l) (h - l)⟩⟩
/-- An end of a part of a string or a row. -/
def boundK (t : List AV) (x : Option Operand) (d : Nat) : Option (Cond × Nat) := match x with
  | none => some (.t, d)
  | some x => match constIx x with
    | some k => some (.t, k)
    | none => match ev t x with
      | .one l => ixL l
      | _ => none
def bothC (c d : Cond) : Cond := match c with
  | .t => d
  | .p p i => match d with
    | .t => .p p i
    | .p q j => .p (p ∧ q) (match i, j with | some _, some _ => some inferInstance | _, _ => none)
/-- The bytes of cells. -/
def bytesL : List L → Option (List UInt8)
  | [] => some []
  | .b8 false x :: ls => match bytesL ls with
    | some r => some (UInt8.ofBitVec x :: r)
    | none => none
  | _ :: _ => none
/-- One of some numbers. -/
def nthW {w : Nat} : List (BitVec w) → Nat → BitVec w
  | [], _ => 0#w
  | x :: _, 0 => x
  | _ :: xs, n + 1 => nthW xs n
def col64 (s : Bool) : List L → Option (List (BitVec 64))
  | [] => some []
  | .b64 s' x :: r => match same s s' (some x), col64 s r with
    | some x, some xs => some (x :: xs)
    | _, _ => none
  | _ :: _ => none
/-- s cells, from cell p of element k on, of a row of elements of z cells that begins at cell o. -/
def rdR (ls : List L) (o z k p s : Nat) : Option (Cond × List L) := match dropL ls o with
  | [] => none
  | l :: r => match l with
    | .seg z' n f => match Nat.beq z z' with
      | true => match takeP (dropP (f k) p) s with
        | some ps => some (.p (k < n), toLs ps)
        | none => none
      | false => none
    | l => match takeL (dropL (l :: r) (z * k + p)) s with
      | some r => some (.t, r)
      | none => none
/-- Values laid into a row. -/
def wrR (z k p : Nat) (vs : List L) : List L → Nat → Option (Cond × List L)
  | [], _ => none
  | l :: ls, o => match l with
    | .seg z' n f => match o with
      | 0 => match Nat.beq z z' with
        | true => match toPLs vs with
          | some ps => match Nat.ble (p + ps.length) z with
            | true => some (.p (k < n), .seg z n (updF f k p ps) :: ls)
            | false => none
          | none => none
        | false => none
      | o + 1 => match Nat.ble (z' * n) (o + 1) with
        | true => match wrR z k p vs ls (o + 1 - z' * n) with
          | some (c, r) => some (c, .seg z' n f :: r)
          | none => none
        | false => none
    | l => match o with
      | 0 => match setLs (l :: ls) (z * k + p) vs with
        | some r => some (.t, r)
        | none => none
      | o + 1 => match wrR z k p vs ls o with
        | some (c, r) => some (c, l :: r)
        | none => none
/-- A row's bytes. -/
def byteP : List PL → UInt8
  | .b8 _ x :: _ => UInt8.ofBitVec x
  | _ => 0
def isB8 : List PL → Bool
  | [.b8 false _] => true
  | _ => false
def rowStr (n : Nat) (f : Nat → List PL) : ByteArray := ⟨⟨(List.range n).map fun k => byteP (f k)⟩⟩
/-- Own maps of numbers: the eldest first. -/
def mhas : List (BitVec 64 × BitVec 64) → BitVec 64 → Bool
  | [], _ => false
  | (x, _) :: r, a => a == x || mhas r a
def mval : List (BitVec 64 × BitVec 64) → BitVec 64 → BitVec 64
  | [], _ => 0#64
  | (x, y) :: r, a => if a = x then y else mval r a
def mput : List (BitVec 64 × BitVec 64) → BitVec 64 → BitVec 64 → List (BitVec 64 × BitVec 64)
  | [], a, b => [(a, b)]
  | (x, y) :: r, a, b => if a = x then (x, b) :: r else (x, y) :: mput r a b
/-- Elements of a row, to be appended. -/
def srcF (ls : List L) (off z m : Nat) : Option (Cond × (Nat → List PL)) := match dropL ls off with
  | [] => none
  | l :: r => match l with
    | .seg z' n f => match Nat.beq z z' with
      | true => some (.p (m ≤ n), f)
      | false => none
    | l => match Nat.beq m 1 with
      | true => match takeL (l :: r) z with
        | some a => match toPLs a with
          | some ps => some (.t, fun _ => ps)
          | none => none
        | none => none
      | false => match takeL (l :: r) (z * m) with
        | some a => match toPLs a with
          | some ps => some (.t, fun k => match takeP (dropP ps (z * k)) z with | some r => r | none => [])
          | none => none
        | none => none
/-- So many cells. -/
def falsesP : Nat → List PL
  | 0 => []
  | n + 1 => .bool false :: falsesP n
def isI64 (P : Program) (T : TypeId) : Bool := match P.underlying T with
  | some (.int .i64) => true
  | _ => false
def selL (ls : List L) (k : Nat) : Option L := match ls with
  | .b64 s x :: r => match col64 s (.b64 s x :: r) with
    | some xs => some (.b64 s (nthW xs k))
    | none => none
  | _ => none
/-- The k-th of some numbers made another one. -/
def updL (s : Bool) (v : BitVec 64) (k : Nat) : Nat → List L → Option (List L)
  | _, [] => some []
  | j, .b64 s' x :: r => match same s s' (some x), updL s v k (j + 1) r with
    | some x, some r => some (.b64 s (if k = j then v else x) :: r)
    | _, _ => none
  | _, _ :: _ => none
/-- A slice that is built of elements of two cells and more, all plain: an own row. -/
def cutF (z : Nat) (ps : List PL) (k : Nat) : List PL := match takeP (dropP ps (z * k)) z with
  | some r => r
  | none => []
def bndK (k m : Nat) : Nat := match Nat.ble k m with
  | true => k
  | false => m
/-- A row's elements; beyond its end the last one. -/
def cutN (len z : Nat) (ps : List PL) : Nat → List PL := match Nat.beq len 1 with
  | true => fun _ => ps
  | false => fun k => cutF z ps (bndK k (len - 1))
def slcReq (e : TypeId) (z len : Nat) (ls : List L) : Req := match Nat.ble 2 z with
  | true => match toPLs ls with
    | some ps => match Nat.beq ps.length (z * len) with
      | true => .new (.row e z len (cutN len z ps)) (.r len)
      | false => .new (.cells e ls) (.s len)
    | none => .new (.cells e ls) (.s len)
  | false => .new (.cells e ls) (.s len)
def req (P : Program) (o : Op) (t : List AV) : Option (Cond × Req) :=
  match o with
  | .move x | .assign x => some (.t, .val (ev t x))
  | .pick c a b => match ev t c with
    | .one (.bool p) => some (.t, .pick p (ev t a) (ev t b))
    | _ => none
  | .alloc T => match P.info? T with
    | some i => match i.zero with
      | some z => match (ofV z).ls with
        | some ls => some (.t, .new (.cells T (norm P 8 T ls)) .p)
        | none => none
      | none => none
    | none => none
  | .makeMap T r => match r with
    | some _ => none
    | none => match P.underlying T with
      | some (.map k e) => match isI64 P k with
        | true => match isI64 P e with
          | true => some (.t, .new (.imap []) .m)
          | false => none
        | false => none
      | _ => none
  | .mapUpdate T x k v => match ev t x with
    | .one (.imap i) => match P.underlying T with
      | some (.map kt et) => match isI64 P kt, isI64 P et with
        | true, true => match ev t k, ev t v with
          | .one (.b64 true a), .one (.b64 true b) => some (.t, .wr i fun
            | .imap es => some (.t, .imap (mput es a b))
            | _ => none)
          | _, _ => none
        | _, _ => none
      | _ => none
    | _ => none
  | .box T x => match (ev t x).ls with
    | some ls => some (.t, .new (.cells T ls) .p)
    | none => none
  | .build T parts => match P.info? T with
    | some i => match i.zero with
      | some z => match (ofV z).ls with
        | some zs => match P.underlying T with
          | some (.struct fs) => match placesOf P fs.toList with
            | some pl => match fillLs (nth pl) (match parts.toList with | [] => norm P 8 T zs | _ :: _ => zs) (evp t parts.toList) with
              | some ls => some (.t, .val (.agg ls))
              | none => none
            | none => none
          | some (.array _ e) => match P.info? e with
            | some inf => match fillLs (fun i => some (i * inf.size, inf.size)) (match parts.toList with | [] => norm P 8 T zs | _ :: _ => zs) (evp t parts.toList) with
              | some ls => some (.t, .val (.agg ls))
              | none => none
            | none => none
          | _ => none
        | none => none
      | none => none
    | none => none
  | .buildSlice T len parts => match P.underlying T with
    | some (.slice e) => match P.info? e with
      | some inf => match inf.zero with
        | some z => match (ofV z).ls with
          | some zs => match Nat.beq zs.length inf.size, Nat.ble (len * inf.size) 16777216, fillLs (fun i => some (i * inf.size, inf.size)) (zfill zs (len * inf.size) 0) (evp t parts.toList) with
            | true, true, some ls => match Nat.beq (len * inf.size) 0 with
              | false => some (.t, slcReq e inf.size len ls)
              | true => none
            | _, _, _ => none
          | none => none
        | none => none
      | none => none
    | _ => none
  | .load T a => match ev t a with
    | .one (.ptr i off) => match P.info? T with
      | some inf => match isAggT P T with
         | some true => some (.t, .rd i fun b => match b.rdL with
            | some ls => match takeL (dropL ls off) inf.size with
              | some r => some (.t, .agg r)
              | none => none
            | none => none)
         | some false => some (.t, .rd i fun b => match b.rdL with
            | some ls => match headL (dropL ls off) with
              | some l => some (.t, .one l)
              | none => none
            | none => none)
         | none => none
      | none => none
    | .one (.raw (.pointer (some p))) => match p.spot with
      | none => some (.t, .glob T p.block p.off)
      | some _ => none
    | .one (.eptr i off n k) => match P.info? T with
      | some inf => match isAggT P T with
         | some false => some (.p (k < n), .rd i fun b => match b.rdL with
            | some ls => match takeL (dropL ls off) n with
              | some r => match selL r k with
                | some l => some (.t, .one l)
                | none => none
              | none => none
            | none => none)
         | _ => none
      | none => none
    | .one (.rptr i o z k p) => match P.info? T with
      | some inf => match isAggT P T with
        | some true => some (.t, .rd i fun b => match b.rdL with
          | some ls => match rdR ls o z k p inf.size with
            | some (c, r) => some (c, .agg r)
            | none => none
          | none => none)
        | some false => some (.t, .rd i fun b => match b.rdL with
          | some ls => match rdR ls o z k p 1 with
            | some (c, r) => match headL r with
              | some l => some (c, .one l)
              | none => none
            | none => none
          | none => none)
        | none => none
      | none => none
    | _ => none
  | .lookup T x i ok => match ev t x with
    | .one (.gmap g b) => some (.t, .look T ok g b (ev t i))
    | .one (.imap j) => match P.underlying T with
      | some (.map kt et) => match isI64 P kt, isI64 P et, P.info? et with
        | true, true, some inf => match inf.zero with
          | some (.int .i64 0) => match ev t i with
            | .one (.b64 true a) => some (.t, .rd j fun
              | .imap es => some (.t, match ok with
                | true => .tup [(false, [.b64 true (mval es a)]), (false, [.bool (mhas es a)])]
                | false => .one (.b64 true (mval es a)))
              | .romap es => some (.t, match ok with
                | true => .tup [(false, [.b64 true (mval es a)]), (false, [.bool (mhas es a)])]
                | false => .one (.b64 true (mval es a)))
              | _ => none)
            | _ => none
          | _ => none
        | _, _, _ => none
      | _ => none
    | .one (.raw (.map none)) => match P.underlying T with
      | some (.map kt et) => match isI64 P kt, isI64 P et, P.info? et with
        | true, true, some inf => match inf.zero with
          | some (.int .i64 0) => match ev t i with
            | .one (.b64 true _) => some (.t, .val (match ok with
                | true => .tup [(false, [.b64 true 0#64]), (false, [.bool false])]
                | false => .one (.b64 true 0#64)))
            | _ => none
          | _ => none
        | _, _, _ => none
      | _ => none
    | _ => none
  | .store T a x => match ev t a with
    | .one (.ptr i off) => match (ev t x).ls with
      | some vs => match okLs vs, Nat.beq (wids vs) (P.cellsOf T), P.info? T with
        | true, true, some _ => some (.t, .wr i fun
          | .cells T ls => match setLs ls off vs with
            | some ls => some (.t, .cells T ls)
            | none => none
          | _ => none)
        | _, _, _ => none
      | none => none
    | .one (.rptr i o z k p) => match (ev t x).ls with
      | some vs => match okLs vs, Nat.beq (wids vs) (P.cellsOf T), P.info? T with
        | true, true, some _ => some (.t, .wr i fun
          | .cells T ls => match wrR z k p vs ls o with
            | some (c, ls) => some (c, .cells T ls)
            | none => none
          | .row T z' n f => match Nat.beq o 0 with
            | true => match Nat.beq z z' with
              | true => match toPLs vs with
                | some ps => match Nat.ble (p + ps.length) z with
                  | true => some (.p (k < n), .row T z' n (updF f k p ps))
                  | false => none
                | none => none
              | false => none
            | false => none
          | _ => none)
        | _, _, _ => none
      | none => none
    | .one (.eptr i off n k) => match ev t x with
      | .one (.b64 s v) => match Nat.beq 1 (P.cellsOf T), P.info? T with
        | true, some _ => some (.p (k < n), .wr i fun
          | .cells T ls => match takeL (dropL ls off) n with
            | some r => match updL s v k 0 r with
              | some r' => match setLs ls off r' with
                | some ls => some (.t, .cells T ls)
                | none => none
              | none => none
            | none => none
          | _ => none)
        | _, _ => none
      | _ => none
    | _ => none
  | .nilCheck x => match ev t x with
    | .one (.ptr i off) => some (.t, .val (.one (.ptr i off)))
    | .one (.rptr i o z k p) => some (.t, .val (.one (.rptr i o z k p)))
    | _ => none
  | .fieldAddr T x f => match ev t x with
    | .one (.ptr i off) => match P.underlying T with
      | some (.struct fs) => match nth fs.toList f with
        | some fd => match P.info? fd.type with
          | some inf => match Nat.beq inf.size 0 with
            | false => some (.t, .val (.one (.ptr i (off + fd.offset))))
            | true => none
          | none => none
        | none => none
      | _ => none
    | .one (.rptr i o z k p) => match P.underlying T with
      | some (.struct fs) => match nth fs.toList f with
        | some fd => match P.info? fd.type with
          | some inf => match Nat.beq inf.size 0 with
            | false => some (.t, .val (.one (.rptr i o z k (p + fd.offset))))
            | true => none
          | none => none
        | none => none
      | _ => none
    | .one (.raw (.pointer (some p))) => match p.spot with
      | none => match P.underlying T with
        | some (.struct fs) => match nth fs.toList f with
          | some fd => match P.info? fd.type with
            | some inf => match Nat.beq inf.size 0 with
              | false => some (.t, .val (.one (.raw (.pointer (some ⟨p.block, p.off + fd.offset, none⟩)))))
              | true => none
            | none => none
          | none => none
        | _ => none
      | some _ => none
    | _ => none
  | .field T x f => match ev t x with
    | .agg ls => match P.underlying T with
      | some (.struct fs) => match nth fs.toList f with
        | some fd => match P.info? fd.type with
          | some inf => match isAggT P fd.type with
            | some true => match takeL (dropL ls fd.offset) inf.size with
              | some r => some (.t, .val (.agg r))
              | none => none
            | some false => match headL (dropL ls fd.offset) with
              | some l => some (.t, .val (.one l))
              | none => none
            | none => none
          | none => none
        | none => none
      | _ => none
    | _ => none
  | .indexAddr T x i => match ev t x with
    | .one (.ptr b off) => match P.underlying T with
      | some (.array n e) => match P.info? e with
        | some inf => match constIx i with
          | some k => match Nat.blt k n with
            | true => some (.t, .val (.one (.ptr b (off + k * inf.size))))
            | false => none
          | none => match ev t i with
            | .one l => match ixL l with
              | some (c, k) => match Nat.beq n 16, Nat.beq inf.size 1 with
                | true, true => some (andC c (k < n), .val (.one (.eptr b off n k)))
                | _, _ => match bigA n inf.size with
                  | true => some (andC c (k < n), .val (.one (.rptr b off inf.size k 0)))
                  | false => some (andC c (k < n), .val (.one (.ptr b (off + k * inf.size))))
              | none => none
            | _ => none
        | none => none
      | _ => none
    | .one (.slc b off len _) => match P.underlying T with
      | some (.slice e) => match P.info? e with
        | some inf => match ev t i with
          | .one l => match ixL l with
            | some (c, k) => some (andC c (k < len), .val (.one (.rptr b off inf.size k 0)))
            | none => none
          | _ => none
        | none => none
      | _ => none
    | .one (.rsl b len) => match P.underlying T with
      | some (.slice e) => match P.info? e with
        | some inf => match ev t i with
          | .one l => match ixL l with
            | some (c, k) => some (andC c (k < len), .val (.one (.rptr b 0 inf.size k 0)))
            | none => none
          | _ => none
        | none => none
      | _ => none
    | .one (.rsc b z frm len) => match P.underlying T with
      | some (.slice e) => match P.info? e with
        | some inf => match ev t i with
          | .one l => match ixL l with
            | some (c, k) => some (andC c (k < len), .rd b fun
              | .row _ _ n' _ => match Nat.beq z inf.size with
                | true => some (.p (frm + len ≤ n'), .one (.rptr b 0 inf.size (frm + k) 0))
                | false => none
              | _ => none)
            | none => none
          | _ => none
        | none => none
      | _ => none
    | .one (.raw (.pointer (some p))) => match p.spot with
      | none => match P.underlying T with
        | some (.array n e) => match P.info? e with
          | some inf => match ev t i with
            | .one l => match ixL l with
              | some (c, k) => some (andC c (k < n), .val (.one (.raw (.pointer (some ⟨p.block, p.off + k * inf.size, none⟩)))))
              | none => none
            | _ => none
          | none => none
        | _ => none
      | some _ => none
    | .one (.rptr b o z k p) => match P.underlying T with
      | some (.array n e) => match P.info? e with
        | some inf => match constIx i with
          | some j => match Nat.blt j n with
            | true => some (.t, .val (.one (.rptr b o z k (p + j * inf.size))))
            | false => none
          | none => match ev t i with
            | .one l => match ixL l with
              | some (c, j) => some (andC c (j < n), .val (.one (.rptr b o z k (p + j * inf.size))))
              | none => none
            | _ => none
        | none => none
      | _ => none
    | _ => none
  | .index T x i => match ev t x with
    | .agg ls => match P.underlying T with
      | some (.array n e) => match P.info? e, (match constIx i with
          | some k => match Nat.blt k n with
            | true => some (Cond.t, k)
            | false => none
          | none => match ev t i with
            | .one l => match ixL l with
              | some (c, k) => some (andC c (k < n), k)
              | none => none
            | _ => none) with
        | some inf, some (c, k) => match isAggT P e with
          | some true => match rdR ls 0 inf.size k 0 inf.size with
            | some (d, r) => some (bothC c d, .val (.agg r))
            | none => none
          | some false => match Nat.beq inf.size 1 with
            | true => match (match constIx i with
                | some _ => none
                | none => selL ls k) with
              | some l => some (bothC c (.p (k < ls.length)), .val (.one l))
              | none => match rdR ls 0 1 k 0 1 with
                | some (d, r) => match headL r with
                  | some l => some (bothC c d, .val (.one l))
                  | none => none
                | none => none
            | false => none
          | none => none
        | _, _ => none
      | _ => none
    | .one (.str s) => match P.underlying T with
      | some .string => match (match constIx i with
          | some k => some (Cond.t, k)
          | none => match ev t i with
            | .one l => ixL l
            | _ => none) with
        | some (c, k) => some (andC c (k < s.size), .val (.one (.b8 false (byteAt s k))))
        | none => none
      | _ => none
    | _ => none
  | .slice T x lo hi mx => match mx with
    | some mx => match ev t x with
      | .one (.rsl i n) => match P.underlying T with
        | some (.slice e) => match P.info? e, lo, hi, boundK t hi n, boundK t (some mx) 0 with
          | some inf, none, some _, some (c, u), some (d, m) => some (bothC (bothC c d) (.p (u ≤ m)), .rd i fun
            | .row _ z n' _ => match Nat.beq z inf.size with
              | true => some (.p (m ≤ n'), .one (.slc i 0 u m))
              | false => none
            | _ => none)
          | _, _, _, _, _ => none
        | _ => none
      | _ => none
    | none => match ev t x with
      | .one (.str s) => match P.underlying T with
        | some .string => match boundK t lo 0, boundK t hi s.size with
          | some (c, l), some (d, h) => some (bothC (bothC c d) (.p (l ≤ h ∧ h ≤ s.size)), .val (.one (.str (exB s l h))))
          | _, _ => none
        | _ => none
      | .one (.ptr i off) => match P.underlying T with
        | some (.array n e) => match P.info? e, boundK t lo 0, boundK t hi n with
          | some _, some (c, l), some (d, h) => match Nat.beq l 0 with
            | true => some (bothC (bothC c d) (.p (h ≤ n)), .val (.one (.slc i off h n)))
            | false => none
          | _, _, _ => none
        | _ => none
      | .one (.rsl i n) => match P.underlying T with
        | some (.slice e) => match P.info? e, boundK t lo 0, hi with
          | some inf, some (c, l), none => some (bothC c (.p (l ≤ n)), .rd i fun
            | .row _ z n' _ => match Nat.beq z inf.size with
              | true => some (.p (n ≤ n'), .one (.rsc i z l (n - l)))
              | false => none
            | _ => none)
          | _, _, _ => none
        | _ => none
      | .one (.rsc i z k n) => match P.underlying T with
        | some (.slice e) => match P.info? e, boundK t lo 0, hi with
          | some inf, some (c, l), none => some (bothC c (.p (l < n)), .rd i fun
            | .row _ _ n' _ => match Nat.beq z inf.size with
              | true => some (.p (k + n ≤ n'), .one (.rsc i z (k + l) (n - l)))
              | false => none
            | _ => none)
          | _, _, _ => none
        | _ => none
      | .one (.slc i off n cap) => match P.underlying T with
        | some (.slice e) => match P.info? e, boundK t lo 0, hi with
          | some inf, some (c, l), none => some (bothC c (.p (l ≤ n ∧ n ≤ cap)), .val (.one (.slc i (off + (match Nat.beq l cap with | true => 0 | false => inf.size * l)) (n - l) (cap - l))))
          | _, _, _ => none
        | _ => none
      | _ => none
  | .makeSlice T l c => match P.underlying T with
    | some (.slice e) => match P.info? e with
      | some inf => match inf.zero with
        | some z => match (ofV z).ls with
          | some zs => match ev t l, ev t c with
            | .one (.b64 true x), .one (.b64 true y) => match toPLs zs with
              | some ps => match Nat.beq ps.length inf.size, Nat.ble inf.bytes 4096, Nat.ble 1 inf.size with
                | true, true, true => some (.p (x = y ∧ x.toNat < 65536), .new (.row e inf.size x.toNat (fun _ => ps)) (.r x.toNat))
                | _, _, _ => none
              | none => none
            | _, _ => none
          | none => none
        | none => none
      | none => none
    | _ => none
  | .extract x k => match ev t x with
    | .tup vs => match nth vs k with
      | some (true, ls) => some (.t, .val (.agg ls))
      | some (false, [l]) => some (.t, .val (.one l))
      | _ => none
    | _ => none
  | .binOp op T x y _ => match ev t x with
    | .one x => match ev t y with
      | .one y => match binL op x y with
        | some (p, v) => some (p, .val (.one v))
        | none => match op, x, y, P.underlying T with
          | .eql, .bool a, .bool b, some .bool => some (.t, .val (.one (.bool (a == b))))
          | .neq, .bool a, .bool b, some .bool => some (.t, .val (.one (.bool (!(a == b)))))
          | .add, .str a, .str b, _ => some (.p (a.size + b.size < 9223372036854775808), .val (.one (.str (catB a b))))
          | .eql, .str a, .str b, _ => some (.t, .val (.one (.bool (decide (a = b)))))
          | .neq, .str a, .str b, _ => some (.t, .val (.one (.bool (!(decide (a = b))))))
          | .eql, .imap _, .raw (.map none), some (.map _ _) => some (.t, .val (.one (.bool false)))
          | .neq, .imap _, .raw (.map none), some (.map _ _) => some (.t, .val (.one (.bool true)))
          | .eql, .raw (.map none), .raw (.map none), some (.map _ _) => some (.t, .val (.one (.bool true)))
          | .neq, .raw (.map none), .raw (.map none), some (.map _ _) => some (.t, .val (.one (.bool false)))
          | _, _, _, _ => none
      | _ => none
    | .agg xs => match ev t y with
      | .agg ys => match isAggT P T, eqT P 8 T xs ys, op with
        | some true, some b, .eql => some (.p ((P.eqGuardType P.depth T || blank P 8 T) = false), .val (.one (.bool b)))
        | some true, some b, .neq => some (.p ((P.eqGuardType P.depth T || blank P 8 T) = false), .val (.one (.bool (!b))))
        | _, _, _ => none
      | _ => none
    | _ => none
  | .unOp op _ x => match ev t x with
    | .one l => match un op l with
      | some v => some (.t, .val (.one v))
      | none => none
    | _ => none
  | .convert src dst x => match ev t x with
    | .one (.slc i off n _) => match P.underlying src, P.underlying dst with
      | some (.slice e), some .string => match P.underlying e with
        | some (.int .u8) => some (.t, .rd i fun b => match b.rdL with
          | some ls => match takeL (dropL ls off) n with
            | some r => match bytesL r with
              | some bs => some (.t, .one (.str ⟨⟨bs⟩⟩))
              | none => none
            | none => none
          | none => none)
        | _ => none
      | _, _ => none
    | .one (.rsl i n) => match P.underlying src, P.underlying dst with
      | some (.slice e), some .string => match P.underlying e with
        | some (.int .u8) => some (.t, .rd i fun b => match b.rdL with
          | some ls => match ls with
            | [.seg z n' f] => match Nat.beq z 1 with
              | true => some (.p (n ≤ n' ∧ ∀ k, k < n → isB8 (f k) = true), .one (.str (rowStr n f)))
              | false => none
            | _ => none
          | none => none)
        | _ => none
      | _, _ => none
    | .one (.raw (.slice none 0 0)) => match P.underlying src, P.underlying dst with
      | some (.slice e), some .string => match P.underlying e with
        | some (.int .u8) => some (.t, .val (.one (.str ⟨⟨[]⟩⟩)))
        | _ => none
      | _, _ => none
    | .one l => match P.underlying src, P.underlying dst with
      | some _, some (.int k) => match conv k l with
        | some v => some (.t, .val (.one v))
        | none => none
      | _, _ => none
    | _ => none
  | .makeFunc fn fst cap => match fn, fst.toList with
    | .func f, [] => match capsOf t cap.toList with
      | some r => some (.t, .val (.one (.clo f r)))
      | none => none
    | _, _ => none
  | .call c => match c.callee with
    | .value (.func f) => some (.t, .call f (evs t c.args.toList))
    | .value (.tmp n) => match getT t n with
      | .one (.raw (.func (.func f) fst cap)) => match fst.toList, cap.toList with
        | [], [] => some (.t, .call f (evs t c.args.toList))
        | _, _ => none
      | .one (.clo f caps) => some (.t, .call f (evs t c.args.toList ++ capVs caps))
      | _ => none
    | .builtin .len => match c.argTypes.toList, evs t c.args.toList with
      | [T], [.one (.slc _ _ n _)] => match P.underlying T with
        | some (.slice _) => some (.p (n < 9223372036854775808), .val (.one (.b64 true (BitVec.ofNat 64 n))))
        | _ => none
      | [T], [.one (.str s)] => match P.underlying T with
        | some .string => some (.p (s.size < 9223372036854775808), .val (.one (.b64 true (BitVec.ofNat 64 s.size))))
        | _ => none
      | [T], [.one (.rsl _ n)] => match P.underlying T with
        | some (.slice _) => some (.p (n < 9223372036854775808), .val (.one (.b64 true (BitVec.ofNat 64 n))))
        | _ => none
      | [T], [.one (.rsc _ _ _ n)] => match P.underlying T with
        | some (.slice _) => some (.p (n < 9223372036854775808), .val (.one (.b64 true (BitVec.ofNat 64 n))))
        | _ => none
      | [T], [.one (.raw (.slice _ 0 _))] => match P.underlying T with
        | some (.slice _) => some (.t, .val (.one (.b64 true 0#64)))
        | _ => none
      | [T], [.one (.imap i)] => match P.underlying T with
        | some (.map _ _) => some (.t, .rd i fun
          | .imap es => some (.p (es.length < 9223372036854775808), .one (.b64 true (BitVec.ofNat 64 es.length)))
          | .romap es => some (.p (es.length < 9223372036854775808), .one (.b64 true (BitVec.ofNat 64 es.length)))
          | _ => none)
        | _ => none
      | _, _ => none
    | .builtin .append => match c.argTypes.toList, evs t c.args.toList with
      | [T, T'], [.one x, .one y] => match P.underlying T with
        | some (.slice e) => match P.info? e with
          | some inf => match (match x with
              | .raw (.slice none 0 0) => some (none : Option (Nat × Nat))
              | .rsl i n => some (some (i, n))
              | _ => none), inf.zero with
            | some base, some z => match Nat.ble inf.bytes 4096, Nat.ble 1 inf.size, Nat.beq z.cells.size inf.size with
              | true, true, true => match Nat.beq T T' with
                | true => match y with
                  | .slc j off m _ => some (.p ((match base with | some (_, n) => n | none => 0) + m < 65536), .app base e inf.size m (.mem j fun b => match b.rdL with
                      | some ls => srcF ls off inf.size m
                      | none => none))
                  | .rsl j m => some (.p ((match base with | some (_, n) => n | none => 0) + m < 65536), .app base e inf.size m (.mem j fun b => match b.rdL with
                      | some ls => srcF ls 0 inf.size m
                      | none => none))
                  | .raw (.slice _ 0 _) => some (.p ((match base with | some (_, n) => n | none => 0) + 0 < 65536), .app base e inf.size 0 (.here fun _ => falsesP inf.size))
                  | _ => none
                | false => match y with
                  | .str s => match P.underlying T', Nat.beq inf.size 1 with
                    | some .string, true => some (.p ((match base with | some (_, n) => n | none => 0) + s.size < 65536), .app base e inf.size s.size (.here fun k => [.b8 false (byteAt s k)]))
                    | _, _ => none
                  | _ => none
              | _, _, _ => none
            | _, _ => none
          | none => none
        | _ => none
      | _, _ => none
    | .builtin .min => match evs t c.args.toList with
      | [.one x, .one y] => match min2 x y with
        | some v => some (.t, .val (.one v))
        | none => none
      | [.one x, .one y, .one z] => match min2 x y with
        | some v => match min2 v z with
          | some u => some (.t, .val (.one u))
          | none => none
        | none => none
      | _ => none
    | .builtin .max => match evs t c.args.toList with
      | [.one x, .one y] => match max2 x y with
        | some v => some (.t, .val (.one v))
        | none => none
      | [.one x, .one y, .one z] => match max2 x y with
        | some v => match max2 v z with
          | some u => some (.t, .val (.one u))
          | none => none
        | none => none
      | _ => none
    | _ => none
  | _ => none

def look : List (Nat × Blk) → Nat → Option Blk
  | [], _ => none
  | (j, b) :: r, i => match Nat.beq j i with
    | true => some b
    | false => look r i
noncomputable def setB {α : Sort _} (l : List (Nat × Blk)) : Nat → Blk → (List (Nat × Blk) → α) → α :=
  List.rec (motive := fun _ => Nat → Blk → (List (Nat × Blk) → α) → α) (fun _ _ k => k [])
    (fun p r ih i b' k => match p with
      | (j, b) => match Nat.beq j i with
        | true => k ((j, b') :: r)
        | false => ih i b' fun r => k ((j, b) :: r)) l
def kn : List (Nat × Bool) → Nat → Option Bool
  | [], _ => none
  | (j, b) :: r, i => match Nat.beq j i with
    | true => some b
    | false => kn r i
def kdel : List (Nat × Bool) → Nat → List (Nat × Bool)
  | [], _ => []
  | (j, b) :: r, i => match Nat.beq j i with
    | true => kdel r i
    | false => (j, b) :: kdel r i
def kdelO (kw : List (Nat × Bool)) : Option Nat → List (Nat × Bool)
  | none => kw
  | some d => kdel kw d

noncomputable def forceK {α : Sort _} (l : List (Nat × Bool)) : (List (Nat × Bool) → α) → α :=
  List.rec (motive := fun _ => (List (Nat × Bool) → α) → α) (fun k => k [])
    (fun p _ ih k => match p with
      | (j, true) => ih fun r => k ((j, true) :: r)
      | (j, false) => ih fun r => k ((j, false) :: r)) l
/-- What an operation looks at in memory, and whether it writes it. -/
abbrev FP := Bool × List Nat
/-- Is appended? Rows that grow by letters, or by numbers that are known. -/
inductive Ap
  | no
  | sym
  | clo
/-- What each function answers: a condition, and the value; what package variables hold; what look-ups in their maps tell. -/
structure Table where
  fn : FuncId → List AV → List (Nat × Blk) → Option (Cond × AV)
  glob : TypeId → Nat → Nat → Option AV
  look : TypeId → Bool → Nat → Nat → AV → Option (Cond × AV)
  inl : FuncId → Nat → List AV → List (Nat × Blk) → (AV → List (Nat × Blk) → Prop) → Prop
  app : Ap
  nm : Nat
  tp : Nat
  im : List Nat
  mkr : FuncId → List AV → List (Nat × Blk) → Option (Cond × Blk × NewV)
  mks : List Nat
def setNm (C : Table) (nm tp : Nat) : Table := ⟨C.fn, C.glob, C.look, C.inl, C.app, nm, tp, C.im, C.mkr, C.mks⟩
/-- Nothing is gone through in its caller's place, nothing appended. -/
def noInl (C : Table) : Table := ⟨C.fn, C.glob, C.look, fun _ _ _ _ _ => Stuck "call", .no, C.nm, C.tp, [], C.mkr, C.mks⟩
/-- Nothing is called. -/
def stillT (C : Table) : Table := ⟨fun _ _ _ => none, C.glob, C.look, fun _ _ _ _ _ => Stuck "call", .no, C.nm, C.tp, [], fun _ _ _ => none, []⟩
/-- The name of the block that an operation makes. -/
def nameOf (nm d : Nat) : Nat := match nm with
  | 0 => d
  | n + 1 => n + 1 + d
/-- .., forced. -/
def withName {α : Sort _} (nm d : Nat) (k : Nat → α) : α := match nm with
  | 0 => k d
  | n + 1 => k (n + 1 + d)
def allLt (b : Nat) : List (Nat × Blk) → Bool
  | [] => true
  | (i, _) :: r => match Nat.blt i b with
    | true => allLt b r
    | false => false

def capN : List (Nat × Nat) → List Nat
  | [] => []
  | (i, _) :: r => i :: capN r
def L.names : L → List Nat
  | .ptr i _ => [i]
  | .eptr i _ _ _ => [i]
  | .slc i _ _ _ => [i]
  | .rptr i _ _ _ _ => [i]
  | .rsl i _ => [i]
  | .rsc i _ _ _ => [i]
  | .imap i => [i]
  | .clo _ caps => capN caps
  | _ => []
def lnames : List L → List Nat
  | [] => []
  | l :: ls => l.names ++ lnames ls
def vnames : List (Bool × List L) → List Nat
  | [] => []
  | (_, ls) :: r => lnames ls ++ vnames r
def AV.names : AV → List Nat
  | .one l => l.names
  | .agg ls => lnames ls
  | .tup vs => vnames vs
def Blk.names : Blk → List Nat
  | .cells _ ls => lnames ls
  | .ro _ ls => lnames ls
  | _ => []
def anames : List AV → List Nat
  | [] => []
  | v :: vs => v.names ++ anames vs
/-- The blocks with such names. -/
def blks (h : Nat → Option Blk) : List Nat → List (Nat × Blk)
  | [] => []
  | i :: r => match h i with
    | some b => (i, b) :: blks h r
    | none => blks h r
def inCaps (d : Nat) : List (Nat × Nat) → Bool
  | [] => false
  | (i, _) :: r => match Nat.beq i d with
    | true => true
    | false => inCaps d r
/-- Values that bear a name that will be made anew are of no matter any more. -/
def L.purge (d : Nat) (l : L) : L := match l with
  | .ptr i o => match Nat.beq i d with
    | true => .junk
    | false => .ptr i o
  | .eptr i o n k => match Nat.beq i d with
    | true => .junk
    | false => .eptr i o n k
  | .slc i o n c => match Nat.beq i d with
    | true => .junk
    | false => .slc i o n c
  | .rptr i o z k p => match Nat.beq i d with
    | true => .junk
    | false => .rptr i o z k p
  | .rsl i n => match Nat.beq i d with
    | true => .junk
    | false => .rsl i n
  | .rsc i z k n => match Nat.beq i d with
    | true => .junk
    | false => .rsc i z k n
  | .imap i => match Nat.beq i d with
    | true => .junk
    | false => .imap i
  | .clo f caps => match inCaps d caps with
    | true => .junk
    | false => .clo f caps
  | l => l
def purgeLs (d : Nat) : List L → List L
  | [] => []
  | l :: ls => l.purge d :: purgeLs d ls
def purgeVs (d : Nat) : List (Bool × List L) → List (Bool × List L)
  | [] => []
  | (b, ls) :: r => (b, purgeLs d ls) :: purgeVs d r
def AV.purge (d : Nat) (v : AV) : AV := match v with
  | .one l => .one (l.purge d)
  | .agg ls => .agg (purgeLs d ls)
  | .tup vs => .tup (purgeVs d vs)
def Blk.purge (d : Nat) (b : Blk) : Blk := match b with
  | .cells T ls => .cells T (purgeLs d ls)
  | .ro T ls => .ro T (purgeLs d ls)
  | b => b
noncomputable def purgeTK {α : Sort _} (d : Nat) (l : List AV) : (List AV → α) → α :=
  List.rec (motive := fun _ => (List AV → α) → α) (fun k => k []) (fun x _ ih k => forceA (x.purge d) fun x => ih fun xs => k (x :: xs)) l
noncomputable def purgeHK {α : Sort _} (d : Nat) (l : List (Nat × Blk)) : (List (Nat × Blk) → α) → α :=
  List.rec (motive := fun _ => (List (Nat × Blk) → α) → α) (fun k => k [])
    (fun p _ ih k => match p with
      | (j, b) => match Nat.beq j d with
        | true => ih k
        | false => forceB (b.purge d) fun b => ih fun r => k ((j, b) :: r)) l
/-- A state's parts, taken out of it. -/
noncomputable def nxK {α : Sort _} (s : S) (k : List AV → List (Nat × Blk) → α) : α := S.rec (motive := fun _ => α) k s
theorem nxK_eq {α : Sort _} (s : S) (k : List AV → List (Nat × Blk) → α) : nxK s k = k s.t s.h := by cases s; rfl
noncomputable def putK (s : S) (dst : Option Nat) (v : AV) (k : S → Prop) : Prop :=
  match dst with
  | some d => forceA v fun v => nxK s fun t h => setK t d v fun t => k ⟨t, h⟩
  | none => k s
/-- What the elements are that are appended. -/
def srcK (x : Src) (h : List (Nat × Blk)) (k : Cond → (Nat → List PL) → Prop) : Prop := match x with
  | .here g => k .t g
  | .mem j f => match look h j with
    | some b => match f b with
      | some (c, g) => k c g
      | none => Stuck "app"
    | none => Stuck "app"
/-- Names, forced. -/
noncomputable def forceNs {α : Sort _} (l : List Nat) : (List Nat → α) → α :=
  List.rec (motive := fun _ => (List Nat → α) → α) (fun k => k []) (fun n _ ih k => ih fun ns => k (n :: ns)) l
theorem forceNs_eq {α : Sort _} : ∀ (l : List Nat) (k : List Nat → α), forceNs l k = k l
  | [], _ => rfl
  | n :: l, k => forceNs_eq l fun ns => k (n :: ns)
/-- Names that are not below, each once. -/
def inNs (i : Nat) : List Nat → Bool
  | [] => false
  | j :: r => match Nat.beq i j with
    | true => true
    | false => inNs i r
def newNs (b : Nat) : List Nat → List Nat
  | [] => []
  | i :: r => match Nat.blt i b with
    | true => newNs b r
    | false => match inNs i r with
      | true => newNs b r
      | false => i :: newNs b r
/-- A value whose block is borne by another name. -/
def L.ren (i j : Nat) (l : L) : L := match l with
  | .ptr x o => match Nat.beq x i with
    | true => .ptr j o
    | false => .ptr x o
  | .slc x o n c => match Nat.beq x i with
    | true => .slc j o n c
    | false => .slc x o n c
  | .rsl x n => match Nat.beq x i with
    | true => .rsl j n
    | false => .rsl x n
  | .rsc x z k n => match Nat.beq x i with
    | true => .rsc j z k n
    | false => .rsc x z k n
  | .imap x => match Nat.beq x i with
    | true => .imap j
    | false => .imap x
  | l => l
def renLs (i j : Nat) : List L → List L
  | [] => []
  | l :: ls => l.ren i j :: renLs i j ls
def renVs (i j : Nat) : List (Bool × List L) → List (Bool × List L)
  | [] => []
  | (b, ls) :: r => (b, renLs i j ls) :: renVs i j r
def AV.ren (i j : Nat) (v : AV) : AV := match v with
  | .one l => .one (l.ren i j)
  | .agg ls => .agg (renLs i j ls)
  | .tup vs => .tup (renVs i j vs)
noncomputable def renHK {α : Sort _} (i j : Nat) (l : List (Nat × Blk)) : (List (Nat × Blk) → α) → α :=
  List.rec (motive := fun _ => (List (Nat × Blk) → α) → α) (fun k => k [])
    (fun p _ ih k => match p with
      | (x, b) => match Nat.beq x i with
        | true => ih fun r => k ((j, b) :: r)
        | false => ih fun r => k ((x, b) :: r)) l
/-- Does no block tell a name from b on? -/
def nsLt (b : Nat) : List Nat → Bool
  | [] => true
  | i :: r => match Nat.blt i b with
    | true => nsLt b r
    | false => false
def scopeLt (b : Nat) : List (Nat × Blk) → Bool
  | [] => true
  | (_, c) :: r => match nsLt b c.names with
    | true => scopeLt b r
    | false => false
/-- Blocks that a callee made and hands out get names of the caller's own, beginning with that of slot d. -/
noncomputable def renK (nm tp : Nat) (l : List Nat) : Nat → AV → List AV → List (Nat × Blk) → (AV → List AV → List (Nat × Blk) → Prop) → Prop :=
  List.rec (motive := fun _ => Nat → AV → List AV → List (Nat × Blk) → (AV → List AV → List (Nat × Blk) → Prop) → Prop) (fun _ v t h k => k v t h)
    (fun i _ ih d v t h k => withName nm d fun j => match Nat.blt j tp, inNs j v.names with
      | true, false => purgeTK j t fun t => purgeHK j h fun h => renHK i j h fun h => forceA (v.ren i j) fun v => ih (d + 1) v t h k
      | _, _ => Stuck "out") l
def allInN (h : List (Nat × Blk)) : List Nat → Bool
  | [] => true
  | i :: r => match look h i with
    | some _ => allInN h r
    | none => false
noncomputable def outK (C : Table) (dst : Option Nat) (v : AV) (t : List AV) (h : List (Nat × Blk)) (k : AV → List AV → List (Nat × Blk) → Prop) : Prop :=
  match newNs C.tp v.names with
  | [] => k v t h
  | i :: r => match dst with
    | none => Stuck "out"
    | some d => match scopeLt C.tp h, Nat.ble C.nm C.tp with
      | true, true => renK C.nm C.tp (i :: r) d v t h fun v t h => match allInN h v.names, nsLt C.tp v.names with
        | true, true => k v t h
        | _, _ => Stuck "out"
      | _, _ => Stuck "out"
noncomputable def doK (C : Table) (kw : List (Nat × Bool)) (c : Option Nat) (dst : Option Nat) (s : S) (r : Req) (k : FP → S → Prop) : Prop :=
  match r with
  | .val v => putK s dst v (k (false, []))
  | .rd i f => match look s.h i with
    | some b => match f b with
      | some (p, v) => withC p (putK s dst v (k (false, [i])))
      | none => Stuck "rd"
    | none => Stuck "rd"
  | .wr i f => match dst with
    | some _ => Stuck "wr"
    | none => match look s.h i with
      | some b => match f b with
        | some (p, b') => withC p (forceB b' fun b' => setB s.h i b' fun h => k (true, [i]) ⟨s.t, h⟩)
        | none => Stuck "wr"
      | none => Stuck "wr"
  | .new b nv => match dst with
    | some d => withName C.nm d fun i => match look s.h i with
      | none => match Nat.blt d s.t.length with
        | true => forceB b fun b => forceL (nv.at i) fun v => setK s.t d (.one v) fun t => k (true, [i]) ⟨t, (i, b) :: s.h⟩
        | false => Stuck "new"
      | some _ => Stuck "new"
    | none => Stuck "new"
  | .call f args => match C.fn f args (blks (look s.h) (anames args)) with
    | some (p, v) => withC p (forceNs (anames args) fun ns => putK s dst v (k (false, ns)))
    | none => match C.mkr f args (blks (look s.h) (anames args)) with
     | some (p, b, nv) => withC p (match dst with
       | some d => withName C.nm d fun i => match look s.h i with
         | none => match Nat.blt d s.t.length with
           | true => forceNs (anames args) fun ns => forceB b fun b => forceL (nv.at i) fun v => setK s.t d (.one v) fun t => k (true, i :: ns) ⟨t, (i, b) :: s.h⟩
           | false => Stuck "new"
         | some _ => Stuck "new"
       | none => Stuck "new")
     | none => match allLt C.tp s.h with
      | true => C.inl f C.tp args s.h fun v h => outK C dst v s.t h fun v t h => putK ⟨t, h⟩ dst v (k (true, []))
      | false => Stuck "call"
  | .glob T g off => match C.glob T g off with
    | some v => putK s dst v (k (false, []))
    | none => Stuck "glob"
  | .look T ok g b key => match C.look T ok g b key with
    | some (p, v) => withC p (putK s dst v (k (false, [])))
    | none => Stuck "look"
  | .pick b x y => match c.bind (kn kw) with
    | some true => putK s dst x (k (false, []))
    | some false => putK s dst y (k (false, []))
    | none => Both (Given (b = true) (putK s dst x (k (false, [])))) (Given (b = false) (putK s dst y (k (false, []))))
  | .app base e z m x => match C.app with
    | .no => Stuck "app"
    | .clo => match dst with
      | none => Stuck "app"
      | some d => srcK x s.h fun c g => withC c (match base with
        | some (i, n) => match Nat.ble C.nm i with
          | true => match look s.h i with
            | some (.row T z' n' f) => match Nat.beq T e, Nat.beq z' z with
              | true, true => withC (.p (n = n' ∧ ∀ j, j < m → (g j).length = z))
                (purgeTK i s.t fun t => purgeHK i s.h fun h => putK ⟨t, (i, .row e z (n + m) (joinI n f g)) :: h⟩ (some d) (.one (.rsl i (n + m))) (k (true, [i])))
              | _, _ => Stuck "app"
            | _ => Stuck "app"
          | false => Stuck "app"
        | none => withC (.p (∀ j, j < m → (g j).length = z)) (match Nat.beq m 0 with
          | true => putK s (some d) (.one (.raw (.slice none 0 0))) (k (true, []))
          | false => withName C.nm d fun i => purgeTK i s.t fun t => purgeHK i s.h fun h => putK ⟨t, (i, .row e z m g) :: h⟩ (some d) (.one (.rsl i m)) (k (true, [i]))))
    | .sym => match dst with
      | none => Stuck "app"
      | some d => srcK x s.h fun c g => withC c (match base with
        | some (i, n) => match Nat.ble C.nm i with
          | true => match look s.h i with
            | some (.row T z' n' f) => match Nat.beq T e, Nat.beq z' z with
              | true, true => withC (.p (n = n' ∧ (∀ j, (f j).length = z) ∧ ∀ j, (g j).length = z))
                (purgeTK i s.t fun t => purgeHK i s.h fun h => putK ⟨t, (i, .row e z (n + m) (joinF n f g)) :: h⟩ (some d) (.one (.rsl i (n + m))) (k (true, [i])))
              | _, _ => Stuck "app"
            | _ => Stuck "app"
          | false => Stuck "app"
        | none => withC (.p (∀ j, (g j).length = z)) (Both (Given (Nat.beq m 0 = true) (putK s (some d) (.one (.raw (.slice none 0 0))) (k (true, []))))
          (Given (Nat.beq m 0 = false)
            (withName C.nm d fun i => purgeTK i s.t fun t => purgeHK i s.h fun h => putK ⟨t, (i, .row e z m g) :: h⟩ (some d) (.one (.rsl i m)) (k (true, [i]))))))
/-- The slot that a 'pick' looks at. -/
def pickOf : Op → Option Nat
  | .pick (.tmp c) _ _ => some c
  | _ => none
/-- Is the value that is moved a known bool? -/
def knOp (kw : List (Nat × Bool)) : Operand → Option Bool
  | .tmp n => kn kw n
  | .const (.bool b) => some b
  | _ => none
/-- What is known of bools behind an operation. -/
def kmove (kw : List (Nat × Bool)) (o : Op) (dst : Option Nat) : List (Nat × Bool) :=
  match dst with
  | none => kw
  | some d => match (match o with
      | .move x => knOp kw x
      | .assign x => knOp kw x
      | .pick (.tmp c) x y => match kn kw c with
        | some true => knOp kw x
        | some false => knOp kw y
        | none => none
      | _ => none) with
    | some true => (d, true) :: kdel kw d
    | some false => (d, false) :: kdel kw d
    | none => kdel kw d
noncomputable def opK (P : Program) (C : Table) (kw : List (Nat × Bool)) (o : Oper) (s : S) (k : FP → S → Prop) : Prop :=
  match req P o.op s.t with
  | some (p, q) => withC p (doK C kw (pickOf o.op) o.dst s q k)
  | none => Stuck o.pos
/-- What an operation that is not wanted leaves. -/
abbrev noV : AV := .one (.raw undef)
noncomputable def skipK (o : Oper) (s : S) (k : FP → S → Prop) : Prop := putK s o.dst noV (k (false, []))
def isBoolV : Value → Bool
  | .bool _ => true
  | _ => false
/-- What is written stands first; the others are looked at. -/
def clear1 (a : FP) (ys : List Nat) : Bool := match a with
  | (true, x :: _) => ys.all fun y => !(Nat.beq x y)
  | _ => true
def compat (a b : FP) : Bool := match a, b with
  | (false, _), (false, _) => true
  | (p, xs), (q, ys) => clear1 (p, xs) ys && clear1 (q, ys) xs
def edgeTo (k : Nat) : List Edge → Bool
  | [] => false
  | e :: es => match Region.binds .any e, Nat.beq e.on k with
    | true, true => true
    | _, _ => edgeTo k es
def okAgainst (k : Nat) (fp : FP) : List Oper → List FP → Bool
  | o :: r, fp' :: fps => match compat fp fp' with
    | true => okAgainst k fp r fps
    | false => match edgeTo k o.after.toList with
      | true => okAgainst k fp r fps
      | false => false
  | _, _ => true
/-- Does it wait for one of these? -/
def edgeIn (ds : List Nat) : List Edge → Bool
  | [] => false
  | e :: es => match Region.binds .any e, ds.any (Nat.beq e.on) with
    | true, true => true
    | _, _ => edgeIn ds es
/-- .., with what waits for what waits for it. -/
def okAgainst2 (ds : List Nat) (m : Nat) (fp : FP) : List Oper → List FP → Bool
  | o :: r, fp' :: fps => match edgeIn ds o.after.toList with
    | true => okAgainst2 (m :: ds) (m + 1) fp r fps
    | false => match compat fp fp' with
      | true => okAgainst2 ds (m + 1) fp r fps
      | false => false
  | _, _ => true
def okFrom (k : Nat) : List Oper → List FP → Bool
  | _ :: r, fp :: fps => match fp with
    | (_, []) => okFrom (k + 1) r fps
    | (false, xs) => match okAgainst k (false, xs) r fps with
      | true => okFrom (k + 1) r fps
      | false => false
    | (true, xs) => match okAgainst2 [k] (k + 1) (true, xs) r fps with
      | true => okFrom (k + 1) r fps
      | false => false
  | _, _ => true

def guardTmp (all : List Oper) (j : Nat) : Option Nat := match nth all j with
  | some o => o.dst
  | none => none
noncomputable def runOps (P : Program) (C : Table) (all : List Oper) (l : List Oper) : List (Nat × Bool) → S → (List FP → S → Prop) → Prop :=
  List.rec (motive := fun _ => List (Nat × Bool) → S → (List FP → S → Prop) → Prop) (fun _ s k => k [] s)
    (fun o _ ih kw s k => match o.guard with
      | none => opK P C kw o s fun fp s => forceK (kmove kw o.op o.dst) fun kw => ih kw s fun fps => k (fp :: fps)
      | some (j, want) => match guardTmp all j with
        | none => Stuck "guard"
        | some d => match getT s.t d with
          | .one (.bool b) => match kn kw d with
            | some true => match want with
              | true => opK P C kw o s fun fp s => forceK (kmove kw o.op o.dst) fun kw => ih kw s fun fps => k (fp :: fps)
              | false => skipK o s fun fp s => forceK (kdelO kw o.dst) fun kw => ih kw s fun fps => k (fp :: fps)
            | some false => match want with
              | false => opK P C kw o s fun fp s => forceK (kmove kw o.op o.dst) fun kw => ih kw s fun fps => k (fp :: fps)
              | true => skipK o s fun fp s => forceK (kdelO kw o.dst) fun kw => ih kw s fun fps => k (fp :: fps)
            | none => match want with
              | true => Both
                (Given (b = true) (opK P C ((d, true) :: kw) o s fun fp s => forceK (kmove ((d, true) :: kw) o.op o.dst) fun kw => ih kw s fun fps => k (fp :: fps)))
                (Given (b = false) (skipK o s fun fp s => forceK (kdelO ((d, false) :: kw) o.dst) fun kw => ih kw s fun fps => k (fp :: fps)))
              | false => Both
                (Given (b = true) (skipK o s fun fp s => forceK (kdelO ((d, true) :: kw) o.dst) fun kw => ih kw s fun fps => k (fp :: fps)))
                (Given (b = false) (opK P C ((d, false) :: kw) o s fun fp s => forceK (kmove ((d, false) :: kw) o.op o.dst) fun kw => ih kw s fun fps => k (fp :: fps)))
          | .one (.raw v) => match isBoolV v with
            | false => skipK o s fun fp s => forceK (kdelO kw o.dst) fun kw => ih kw s fun fps => k (fp :: fps)
            | true => Stuck "guard"
          | _ => Stuck "guard") l

def newName (o : Oper) : Option Nat := match o.op with
  | .alloc _ | .box _ _ | .buildSlice _ _ _ | .makeSlice _ _ _ | .makeMap _ _ => o.dst
  | _ => none
/-- Is it a call of a function that makes memory by a contract? -/
def isMk (mks : List Nat) (c : Call) : Bool := match mks with
  | [] => false
  | m :: r => match c.callee with
    | .value (.func f) => inNs f (m :: r)
    | _ => false
def newNm (mks : List Nat) (o : Oper) : Option Nat := match o.op with
  | .call c => match isMk mks c with
    | true => o.dst
    | false => none
  | _ => newName o
noncomputable def purgeAll {α : Sort _} (nm : Nat) (mks : List Nat) (ops : List Oper) : S → (S → α) → α :=
  List.rec (motive := fun _ => S → (S → α) → α) (fun s k => k s)
    (fun o _ ih s k => match newNm mks o with
      | none => ih s k
      | some d => withName nm d fun i => match look s.h i with
        | none => ih s k
        | some _ => purgeTK i s.t fun t => purgeHK i s.h fun h => ih ⟨t, h⟩ k) ops
inductive Ex
  | normal
  | ret
  | exit (n : Nat)

/-- Slots of the one state are those of the other one, or these are of no matter. -/
noncomputable def leT (l : List AV) : List AV → Prop :=
  List.rec (motive := fun _ => List AV → Prop) (fun l => match l with | [] => True | _ :: _ => False)
    (fun x _ ih l => match l with
      | [] => False
      | y :: ys => match y with
        | .one .junk => ih ys
        | y => forceA x fun x => forceA y fun y => Both (x = y) (ih ys)) l
noncomputable def leH (h : List (Nat × Blk)) (l : List (Nat × Blk)) : Prop :=
  List.rec (motive := fun _ => Prop) True
    (fun p _ ih => match p with
      | (i, b) => match look h i with
        | some c => forceB b fun b => Both (c = b) ih
        | none => Stuck "leH") l
def isSomeB : Option Blk → Bool
  | some _ => true
  | none => false
def allIn (h : List (Nat × Blk)) : List Nat → Bool
  | [] => true
  | i :: r => match isSomeB (look h i) with
    | true => allIn h r
    | false => false
def scopeT (h : List (Nat × Blk)) : List AV → Bool
  | [] => true
  | v :: vs => match allIn h v.names with
    | true => scopeT h vs
    | false => false
def scopeH (h : List (Nat × Blk)) : List (Nat × Blk) → Bool
  | [] => true
  | (_, b) :: r => match allIn h b.names with
    | true => scopeH h r
    | false => false
/-- Names of blocks that are not this function's own stay. -/
def keepH (nm : Nat) (g : List (Nat × Blk)) : List (Nat × Blk) → Bool
  | [] => true
  | (i, _) :: r => match Nat.blt i nm with
    | true => match isSomeB (look g i) with
      | true => keepH nm g r
      | false => false
    | false => keepH nm g r
structure Le (nm : Nat) (s t : S) : Prop where
  tmps : leT s.t t.t
  heap : leH s.h t.h
  names : scopeT t.h t.t = true
  namesH : scopeH t.h t.h = true
  keep : keepH nm t.h s.h = true

/-- A loop gone through round by round, at most n times. -/
noncomputable def timesP (body : S → (Ex → S → Prop) → Prop) (Q : Ex → S → Prop) (n : Nat) : S → Prop :=
  Nat.rec (motive := fun _ => S → Prop) (fun _ => Stuck "times")
    (fun _ ih s => body s fun e s => match e with
      | .normal => ih s
      | .ret => Q .ret s
      | .exit m => Q (.exit m) s) n
/-- A loop: states by a letter k, of which 'ok' holds at its head; a measure. -/
inductive LoopP (nm : Nat) (body : S → (Ex → S → Prop) → Prop) (s : S) (Q : Ex → S → Prop) : Prop
  | mk (κ : Type) (ok : κ → Prop) (sh : κ → S) (m : κ → Nat) (start : ∃ k, ok k ∧ Le nm s (sh k))
      (round : ∀ k, ok k → body (sh k) (fun e s => match e with
        | .normal => ∃ k', ok k' ∧ m k' < m k ∧ Le nm s (sh k')
        | .ret => Q .ret s
        | .exit n => Q (.exit n) s)) : LoopP nm body s Q
  | times (n : Nat) (h : timesP body Q n s) : LoopP nm body s Q

/-- What an operation of a condition may write: the condition's own slot by a move, other slots in passing. -/
def memN (d : Nat) : List Nat → Bool
  | [] => false
  | c :: r => match Nat.beq d c with
    | true => true
    | false => memN d r
/-- The slots that conditions in a piece of code look at. -/
def condsOf : Code → List Nat
  | .seq a b => condsOf a ++ condsOf b
  | .cond (.tmp n) a b => n :: (condsOf a ++ condsOf b)
  | _ => []
def okDst (mks cs : List Nat) (o : Oper) : Bool := match o.dst with
  | none => false
  | some d => match o.op with
    | .assign _ => memN d cs
    | .alloc _ | .box _ _ | .buildSlice _ _ _ | .makeSlice _ _ _ | .makeMap _ _ | .store _ _ _ | .pick _ _ _ => false
    | .call c => match isMk mks c with
      | true => false
      | false => !(memN d cs)
    | _ => !(memN d cs)
/-- Operations that only reckon, gone through; else what 'no' says. -/
noncomputable def pureOps (P : Program) (C : Table) (cs : List Nat) (l : List Oper) : S → (List FP → S → Prop) → Prop → Prop :=
  List.rec (motive := fun _ => S → (List FP → S → Prop) → Prop → Prop) (fun s k _ => k [] s)
    (fun o _ ih s k no => match o.guard with
      | some _ => no
      | none => match okDst C.mks cs o with
        | false => no
        | true => match req P o.op s.t with
          | some (.t, .val v) => putK s o.dst v fun s => ih s (fun fps => k ((false, []) :: fps)) no
          | some (.t, .rd i f) => match look s.h i with
            | some b => match f b with
              | some (.t, v) => putK s o.dst v fun s => ih s (fun fps => k ((false, [i]) :: fps)) no
              | _ => no
            | none => no
          | some (.t, .call f args) => match C.fn f args (blks (look s.h) (anames args)) with
            | some (.t, v) => putK s o.dst v fun s => ih s (fun fps => k ((false, anames args) :: fps)) no
            | _ => no
          | _ => no) l
def dstsOps : List Oper → List Nat
  | [] => []
  | o :: r => match o.dst with
    | some d => d :: dstsOps r
    | none => dstsOps r
/-- The slots that a piece of code writes, as far as such code goes. -/
def dstsOf : Code → List Nat
  | .region _ ops _ => dstsOps ops.toList
  | .seq a b => dstsOf a ++ dstsOf b
  | .cond _ a b => dstsOf a ++ dstsOf b
  | _ => []
noncomputable def junkK (ds : List Nat) : List AV → (List AV → Prop) → Prop :=
  List.rec (motive := fun _ => List AV → (List AV → Prop) → Prop) (fun t k => k t) (fun d _ ih t k => setK t d (.one .junk) fun t => ih t k) ds
noncomputable def joinK (ds : List Nat) (c : Nat) (v : Bool) (s : S) (k : S → Prop) : Prop := junkK ds s.t fun t => setK t c (.one (.bool v)) fun t => k ⟨t, s.h⟩
def isSkip : Code → Bool
  | .skip => true
  | _ => false
/-- The first operation that is a call of one of some functions (0: of a function value). -/
def imCall (im : List Nat) (o : Oper) : Bool := match o.op with
  | .call c => match c.callee with
    | .value (.func f) => inNs f im
    | .value (.tmp _) => inNs 0 im
    | _ => false
  | _ => false
def findIm (im : List Nat) : List Oper → Nat → Option Nat
  | [], _ => none
  | o :: r, n => match imCall im o with
    | true => some n
    | false => findIm im r (n + 1)
def headOf (im : List Nat) (ops : List Oper) : Option Nat := match im with
  | [] => none
  | i :: r => findIm (i :: r) ops 0
def stillF : List FP → Bool
  | [] => true
  | (true, _) :: _ => false
  | (false, _) :: r => stillF r
noncomputable def pureE (P : Program) (C : Table) (cs : List Nat) (x : Code) : S → (S → Prop) → Prop → Prop :=
  Code.rec (motive := fun _ => S → (S → Prop) → Prop → Prop)
    (fun s k _ => k s)
    (fun _ ops draw s k no => pureOps P C cs ops.toList s (fun fps s => match draw with
      | false => k s
      | true => match headOf C.im ops.toList with
        | some _ => no
        | none => match okFrom 0 ops.toList fps with
          | true => Both (Ob (Region.lexB .any ops = true)) (k s)
          | false => no) no)
    (fun _ _ iha ihb s k no => iha s (fun s => ihb s k no) no)
    (fun c' x y ihx ihy s k no => match c' with
      | .tmp n => match memN n cs with
        | true => match getT s.t n with
          | .one (.bool p) => match isSkip x with
            | true => ihy s (fun s' => match getT s'.t n with
              | .one (.bool q) => joinK (dstsOf y) n (p || q) s k
              | _ => no) no
            | false => match isSkip y with
              | true => ihx s (fun s' => match getT s'.t n with
                | .one (.bool q) => joinK (dstsOf x) n (p && q) s k
                | _ => no) no
              | false => no
          | _ => no
        | false => no
      | _ => no)
    (fun _ _ _ _ _ no => no) (fun _ _ _ _ no => no) (fun _ _ _ _ _ _ _ _ no => no) (fun _ _ _ no => no) (fun _ _ _ _ no => no) (fun _ _ _ no => no) (fun _ _ _ no => no) (fun _ _ no => no) (fun _ _ _ no => no) x
def isClo : Ap → Bool
  | .clo => true
  | _ => false
noncomputable def E (P : Program) (C : Table) (c : Code) : S → (Ex → S → Prop) → Prop :=
  Code.rec (motive := fun _ => S → (Ex → S → Prop) → Prop)
    (fun s Q => Q .normal s)
    (fun _ ops draw s Q => purgeAll C.nm C.mks ops.toList s fun s => match draw with
      | false => runOps P C ops.toList ops.toList [] s fun _ s => Q .normal s
      | true => match headOf C.im ops.toList with
        | none => runOps P (noInl C) ops.toList ops.toList [] s fun fps s => match okFrom 0 ops.toList fps with
          | true => Both (Ob (Region.lexB .any ops = true)) (Q .normal s)
          | false => Stuck "order"
        | some n => match midT (ops.toList.drop (n + 1)) with
          | false => Both (Ob (Region.tailB ops n = true)) (runOps P (stillT C) ops.toList (ops.toList.take n) [] s fun fps s => match stillF fps with
            | true => runOps P C ops.toList (ops.toList.drop n) [] s fun _ s => Q .normal s
            | false => Stuck "still")
          | true => Both (Ob (Region.midB .any ops n = true)) (runOps P (stillT C) ops.toList (ops.toList.take n) [] s fun fps s => match stillF fps with
            | true => runOps P C ops.toList ((ops.toList.drop n).take 1) [] s fun _ s => runOps P (noInl C) ops.toList (ops.toList.drop (n + 1)) [] s fun fps s => match okFrom (n + 1) (ops.toList.drop (n + 1)) fps with
              | true => Q .normal s
              | false => Stuck "order"
            | false => Stuck "still"))
    (fun _ _ iha ihb s Q => iha s fun e s => match e with
      | .normal => ihb s Q
      | .ret => Q .ret s
      | .exit n => Q (.exit n) s)
    (fun c x y iha ihb s Q => match ev s.t c with
      | .one (.bool p) => match isClo C.app with
       | true => Both (Given (p = true) (iha s Q)) (Given (p = false) (ihb s Q))
       | false => match c with
        | .tmp n => match isSkip x with
          | true => pureE P C (n :: condsOf y) y s (fun s' => match getT s'.t n with
            | .one (.bool q) => joinK (dstsOf y) n (p || q) s fun s => Q .normal s
            | _ => Both (Given (p = true) (iha s Q)) (Given (p = false) (ihb s Q))) (Both (Given (p = true) (iha s Q)) (Given (p = false) (ihb s Q)))
          | false => match isSkip y with
            | true => pureE P C (n :: condsOf x) x s (fun s' => match getT s'.t n with
              | .one (.bool q) => joinK (dstsOf x) n (p && q) s fun s => Q .normal s
              | _ => Both (Given (p = true) (iha s Q)) (Given (p = false) (ihb s Q))) (Both (Given (p = true) (iha s Q)) (Given (p = false) (ihb s Q)))
            | false => Both (Given (p = true) (iha s Q)) (Given (p = false) (ihb s Q))
        | _ => Both (Given (p = true) (iha s Q)) (Given (p = false) (ihb s Q))
      | _ => Stuck "cond")
    (fun n _ ih s Q => ih s fun e s => match e with
      | .normal => Q .normal s
      | .ret => Q .ret s
      | .exit m => match Nat.beq m n with
        | true => Q .normal s
        | false => Q (.exit m) s)
    (fun _ ih s Q => LoopP C.nm ih s Q)
    (fun _ _ _ _ _ _ _ _ => Stuck "code")
    (fun n s Q => Q (.exit n) s)
    (fun _ _ _ _ => Stuck "code")
    (fun _ _ _ => Stuck "code")
    (fun _ _ _ => Stuck "code")
    (fun s Q => Q .ret s)
    (fun _ _ _ => Stuck "code") c

def junks : Nat → List AV
  | 0 => []
  | n + 1 => .one .junk :: junks n
def start : Nat → List AV → List AV
  | n, [] => junks n
  | 0, r => r
  | n + 1, a :: r => a :: start n r
/- The same over recursors: so Lean's two ways of reckoning meet in the same terms. -/
noncomputable def junksR (n : Nat) : List AV := Nat.rec (motive := fun _ => List AV) [] (fun _ ih => .one .junk :: ih) n
noncomputable def startR (n : Nat) (l : List AV) : List AV :=
  List.rec (motive := fun _ => Nat → List AV) (fun n => junksR n) (fun a r ih n => match n with
    | 0 => a :: r
    | m + 1 => a :: ih m) l n
theorem junksR_eq : ∀ n, junksR n = junks n
  | 0 => rfl
  | n + 1 => congrArg (AV.one .junk :: ·) (junksR_eq n)
theorem startR_eq : ∀ (n : Nat) (l : List AV), startR n l = start n l
  | n, [] => by rw [show startR n [] = junksR n from rfl, junksR_eq]; cases n <;> rfl
  | 0, _ :: _ => rfl
  | n + 1, a :: r => congrArg (a :: ·) (startR_eq n r)
def resLs (P : Program) (s : S) : List ResultVar → Option (List (Bool × List L))
  | [] => some []
  | .tmp t :: r => match resLs P s r with
    | some rs => match getT s.t t with
      | .one l => some ((false, [l]) :: rs)
      | .agg ls => some ((true, ls) :: rs)
      | _ => none
    | none => none
  | .cell a T :: r => match resLs P s r with
    | some rs => match getT s.t a with
      | .one (.ptr i off) => match look s.h i with
        | some b => match P.info? T with
          | some inf => match isAggT P T with
            | some true => match b.rdL with
              | some ls => match takeL (dropL ls off) inf.size with
                | some r => some ((true, r) :: rs)
                | none => none
              | none => none
            | some false => match b.rdL with
              | some ls => match headL (dropL ls off) with
                | some l => some ((false, [l]) :: rs)
                | none => none
              | none => none
            | none => none
          | none => none
        | none => none
      | _ => none
    | none => none
def resV : List (Bool × List L) → AV
  | [(false, [l])] => .one l
  | [(true, ls)] => .agg ls
  | r => .tup r
/-- A function's body, on values. -/
noncomputable def F (P : Program) (C : Table) (f : Func) (args : List AV) (K : AV → Prop) : Prop :=
  match f.body with
  | some c => match Nat.ble args.length f.ntmps with
    | false => Stuck "args"
    | true => E P (setNm C 0 f.ntmps) c ⟨startR f.ntmps args, []⟩ fun e s => match e with
      | .exit _ => Stuck "exit"
      | _ => match resLs P s f.results.toList with
        | some r => forceA (resV r) fun v => Ob (K v)
        | none => Stuck "res"
  | none => Stuck "body"
/-- The blocks with such names alone. -/
noncomputable def cutHK {α : Sort _} (b : Nat) (l : List (Nat × Blk)) : (List (Nat × Blk) → α) → α :=
  List.rec (motive := fun _ => (List (Nat × Blk) → α) → α) (fun k => k [])
    (fun p _ ih k => match p with
      | (j, c) => match Nat.blt j b with
        | true => ih fun r => k ((j, c) :: r)
        | false => ih k) l
/-- And the blocks that are handed out. -/
noncomputable def outsK (h : List (Nat × Blk)) (l : List Nat) : List (Nat × Blk) → (List (Nat × Blk) → Prop) → Prop :=
  List.rec (motive := fun _ => List (Nat × Blk) → (List (Nat × Blk) → Prop) → Prop) (fun g k => k g)
    (fun i _ ih g k => match look h i with
      | some b => match b.names with
        | [] => forceB b fun b => ih ((i, b) :: g) k
        | _ => Stuck "out"
      | none => Stuck "out") l
/-- A function's body, gone through in its caller's place: in the caller's memory. -/
noncomputable def FI (P : Program) (C : Table) (f : Func) (tp : Nat) (args : List AV) (h : List (Nat × Blk)) (K : AV → List (Nat × Blk) → Prop) : Prop :=
  match f.body with
  | some c => match Nat.ble args.length f.ntmps with
    | false => Stuck "args"
    | true => E P (setNm C tp (tp + f.ntmps)) c ⟨startR f.ntmps args, h⟩ fun e s => match e with
      | .exit _ => Stuck "exit"
      | _ => match resLs P s f.results.toList with
        | some r => forceA (resV r) fun v => cutHK tp s.h fun h => outsK s.h (newNs tp v.names) h fun h' => match allIn h' v.names, scopeH h h with
          | true, true => K v h'
          | _, _ => Stuck "out"
        | none => Stuck "res"
  | none => Stuck "body"
def findF : List (Nat × Func) → Nat → Option Func
  | [], _ => none
  | (j, f) :: r, i => match Nat.beq j i with
    | true => some f
    | false => findF r i
def withInl (C : Table) (i : FuncId → Nat → List AV → List (Nat × Blk) → (AV → List (Nat × Blk) → Prop) → Prop) : Table := ⟨C.fn, C.glob, C.look, i, C.app, C.nm, C.tp, C.im, C.mkr, C.mks⟩
/-- Functions that are gone through in their callers' places, so many deep. -/
noncomputable def inlN (P : Program) (C : Table) (fs : List (Nat × Func)) (n : Nat) : FuncId → Nat → List AV → List (Nat × Blk) → (AV → List (Nat × Blk) → Prop) → Prop :=
  Nat.rec (motive := fun _ => FuncId → Nat → List AV → List (Nat × Blk) → (AV → List (Nat × Blk) → Prop) → Prop) (fun _ _ _ _ _ => Stuck "deep")
    (fun _ ih f tp args h K => match findF fs f with
      | some fn => FI P (withInl C ih) fn tp args h K
      | none => Stuck "call") n
end Go.Ep
